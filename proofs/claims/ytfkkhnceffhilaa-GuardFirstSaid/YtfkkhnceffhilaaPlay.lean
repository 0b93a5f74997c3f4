/- play. -/
import Derived.Test.YtfkkhnceffhilaaPlayA
namespace Go.Proofs.Ytfkkhnceffhilaa
open Go.ChangeShapes Go.WideShapes Go.ChangeAt Go.RowKit
set_option linter.unusedVariables false
set_option linter.unusedSimpArgs false

set_option maxHeartbeats 8000000 in
set_option maxRecDepth 100000 in
theorem play_any (W0 : World) (c : Nat) (hW0 : W0.heap.size ≤ c) : ∀ (m : Nat) (L : List Act) (A : Option Addr) (cap : Nat) (S : List Nat) (W : World) (N ns : List Int) (h : How), L.length < m → m ≤ 100 → AS W0 (.slice A L.length cap) L → AOk L →
    PlayP W0 c N S W → (∀ s ∈ S, s < W.heap.size) → N.length + 3 * L.length ≤ 10000 → Told L ns h → Calls Try.prog 26 #[.slice A L.length cap, .pointer (some ⟨c, 0, none⟩)] W (PEnd W0 W c S (N ++ ns) h) := by
  intro m
  induction m with
  | zero => exact fun L A cap S W N ns h h' => absurd h' (Nat.not_lt_zero _)
  | succ m ih =>
    intro L A cap S W N ns h hLm hm hA hok hP hS hN hT
    have HIH := Lib.hid ih
    have HA := Lib.hid hA
    have HOK := Lib.hid hok
    have HS := Lib.hid hS
    obtain ⟨i0, hi, hz0, hz1, hz2⟩ := info_parts info3
    have hcl := hP.1.lt
    have hnsl := told_len hT
    have hmk := hmf
    have hP0 : PIn W0 W c S N L ns h A cap W.heap.size (W.heap.size + 1) 0 (W.heap.size + 1 + 1) [] (((W.alloc (.cells #[.slice A L.length cap] 32)).alloc (.cells #[.pointer (some ⟨c, 0, none⟩)] 41)).alloc (.cells #[.int .i64 0] 3)) :=
      ⟨by rw [List.append_nil]; exact (playP_good W0 c N).two hP ((((Kept.refl _ W).alloc _).alloc _).alloc _) [W.heap.size + 1 + 1, W.heap.size + 1, W.heap.size] (by simp; omega), (((Kept.refl _ W).alloc _).alloc _).alloc _,
        ((Blk.new _ _ _).alloc _).alloc _, (Blk.new_at (by simp only [World.size_alloc])).alloc _, Blk.new_at (by simp only [World.size_alloc]), ⟨ns, rfl, hT⟩, Nat.zero_le _, Nat.le_refl _, by omega, by omega, Nat.zero_le _⟩
    obtain ⟨Ln, hLn⟩ : ∃ Ln, L.length = Ln := ⟨_, rfl⟩
    have HLn := Lib.hid hLn
    rw [hLn] at hLm hN hP0 hnsl ⊢
    have HP0 := Lib.hid hP0
    clear ih hA hok hP hS hP0 hLn hT
    go_enter Try.func26, Try.ntmps26
    go_wp2_with fail
    go_loopw [4] (fun u4 wr => ∃ (i bi : Nat) (P : List Int), u4 = .pointer (some ⟨bi, 0, none⟩) ∧ Hid (PIn W0 W c S N L ns h A cap W.heap.size (W.heap.size + 1) i bi P wr)) (fun u4 wr => Ln - (match u4 with | .pointer (some p) => (intOf ((wr.cell? p).getD undef)).toNat | _ => 0))
    case atStart => exact ⟨0, _, [], rfl, HP0⟩
    case round =>
      obtain ⟨i, bi, P, rfl, HP⟩ := hrel
      obtain ⟨hpp, hK, hb2, hb3, hbi, ⟨rest, hns, hT⟩, hiL, hx1, hx2, hx3, hPl⟩ := id HP.out
      rw [HLn.out] at hiL hb2
      obtain ⟨hnt, hBr, hSc⟩ := id hpp
      obtain ⟨r, hbc, hcS, hO⟩ := id hnt
      obtain ⟨A1, c1', rfl⟩ := hO.form
      obtain ⟨q, hq⟩ : ∃ q, (N ++ P).length = q := ⟨_, rfl⟩
      rw [hq] at hbc hO
      have hrow := hO.row
      rw [hq] at hrow
      have HQ := Lib.hid hq
      have HROW := Lib.hid hrow
      have HO := Lib.hid hO
      have HBC := Lib.hid hbc
      have HB2 := Lib.hid hb2
      have HB3 := Lib.hid hb3
      have HBI := Lib.hid hbi
      have hws := hK.size
      have hlc := hbc.lt
      have hl2 := hb2.lt
      have hl3 := hb3.lt
      have hli := hbi.lt
      have g2 : wr.cell? ⟨W.heap.size, 0, none⟩ = some (.slice A Ln cap) := hb2.cell 0
      have g3 : wr.cell? ⟨W.heap.size + 1, 0, none⟩ = some (.pointer (some ⟨c, 0, none⟩)) := hb3.cell 0
      have g4 : wr.cell? ⟨bi, 0, none⟩ = some (.int .i64 i) := hbi.cell 0
      have gc : wr.cell? ⟨c, 0, none⟩ = some (.slice A1 q c1') := hbc.cell 0
      have zc : wr.frozen? ⟨c, 0, none⟩ = false := hbc.frozen 0
      have hncb : c ≠ bi ∧ c ≠ W.heap.size + 1 ∧ c ≠ W.heap.size := by simp only [List.mem_cons, not_or] at hcS; exact ⟨hcS.1, hcS.2.1, hcS.2.2.1⟩
      obtain ⟨hn1, hn2, hn3⟩ := hncb
      have hql : q ≤ 10000 := by
        have h1 := congrArg List.length hns
        rw [List.length_append] at h1
        rw [← hq, List.length_append]
        omega
      have HCS := Lib.hid hcS
      have HNS := Lib.hid hns
      have HSc := Lib.hid hSc
      have HSr := Lib.hid (lt_app (l := [bi, W.heap.size + 1, W.heap.size]) (S := S) (fun s hs => by simp at hs; omega) (fun s hs => by have := HS.out s hs; omega) : ∀ s ∈ [bi, W.heap.size + 1, W.heap.size] ++ S, s < wr.heap.size)
      by_cases hlt : i < Ln
      · obtain ⟨b, off, rfl, hbl, hc⟩ := (show ∃ b off, A = some ⟨b, off, none⟩ ∧ b < W0.heap.size ∧ ∀ j, j < 5 → W0.cell? ⟨b, off + (i * 5 + j), none⟩ = some (actC (L.getD i Act.zero) j) from HA.out.at (by rw [HLn.out]; exact hlt))
        obtain ⟨⟨k, n, a, d, ok⟩, hact⟩ : ∃ x, L.getD i Act.zero = x := ⟨_, rfl⟩
        rw [hact] at hc
        have c0 : wr.cell? ⟨b, off + i * 5, none⟩ = some (.int .i64 k) := by rw [hBr.cell (p := ⟨b, _, none⟩) (by show b < c; omega)]; exact hc 0 (by omega)
        have c1 : wr.cell? ⟨b, off + i * 5 + 1, none⟩ = some (.int .i64 n) := by rw [hBr.cell (p := ⟨b, _, none⟩) (by show b < c; omega)]; exact hc 1 (by omega)
        have c2 : wr.cell? ⟨b, off + i * 5 + 2, none⟩ = some (.int .i64 a) := by rw [hBr.cell (p := ⟨b, _, none⟩) (by show b < c; omega)]; exact hc 2 (by omega)
        have c3 : wr.cell? ⟨b, off + i * 5 + 3, none⟩ = some (.int .i64 d) := by rw [hBr.cell (p := ⟨b, _, none⟩) (by show b < c; omega)]; exact hc 3 (by omega)
        have c4 : wr.cell? ⟨b, off + i * 5 + 4, none⟩ = some (.bool ok) := by rw [hBr.cell (p := ⟨b, _, none⟩) (by show b < c; omega)]; exact hc 4 (by omega)
        have hdrop : L.drop i = ⟨k, n, a, d, ok⟩ :: L.drop (i + 1) := by
          have h := HLn.out
          rw [List.drop_eq_getElem_cons (by omega)]
          congr 1
          rw [← hact, List.getD_eq_getElem?_getD, List.getElem?_eq_getElem (by omega)]; rfl
        rw [hdrop] at hT
        have HACT := Lib.hid hact
        have hk0 : 0 ≤ (i : Int) := by omega
        have hk1 : (i : Int) < (Ln : Int) := by omega
        clear hc hO hK hbc hb2 hb3 hbi hact hdrop hpp hnt hcS hSc hns hrow hq
        cases hT with
        | note hk ht =>
          obtain rfl : k = 1 := hk
          have HT2 := Lib.hid ht
          clear ht
          go_upto_region 7 with fail
          refine wp_forget (fun X => Hid (Kept (fun _ => False) wr X) ∧ wr.heap.size + 1 = X.heap.size ∧ Hid (Blk X wr.heap.size 55 #[.int .i64 1, .int .i64 n, .int .i64 a, .int .i64 d, .bool ok])) ⟨Lib.hid ((Kept.refl _ wr).alloc _), by simp only [World.size_alloc], Lib.hid (Blk.new _ _ _)⟩ ?_
          rintro X ⟨HKX, hXs, HBX⟩
          have x1 : X.cell? ⟨wr.heap.size, 1, none⟩ = some (.int .i64 n) := HBX.out.cell 1
          have x3 : X.cell? ⟨W.heap.size + 1, 0, none⟩ = some (.pointer (some ⟨c, 0, none⟩)) := (HKX.out.blk HB3.out (fun h => h)).cell 0
          have xc : X.cell? ⟨c, 0, none⟩ = some (.slice A1 q c1') := (HKX.out.blk HBC.out (fun h => h)).cell 0
          have xz : X.frozen? ⟨c, 0, none⟩ = false := (HKX.out.blk HBC.out (fun h => h)).frozen 0
          have HOX := Lib.hid (HO.out.kept HKX.out (fun _ _ h => h))
          clear c0 c1 c2 c3 c4 g2 g3 gc zc
          have hfar : ∀ g t cs, Blk wr g t cs → (g = W.heap.size + 1 ∨ g = c ∨ t ≠ 3) → True := fun _ _ _ _ _ => trivial
          clear hfar
          have hr1 : (Value.slice A1 q c1').ownBlock ≠ some (W.heap.size + 1) := fun e => HO.out.far _ e (by simp)
          have hr2 : (Value.slice A1 q c1').ownBlock ≠ some wr.heap.size := fun e => by have := (HROW.out.lt _ e).2; omega
          have hl7 := HBX.out.lt
          have hl3' : W.heap.size + 1 < X.heap.size := by omega
          have hlc' : c < X.heap.size := by omega
          have hn7 : c ≠ wr.heap.size := by omega
          generalize hg7 : wr.heap.size = b7 at *
          have HG7 := Lib.hid hg7
          clear hg7
          have HRX := Lib.hid (by have := HOX.out.row; rwa [HQ.out] at this : X.ownsRow (c + 1) 3 1 (.slice A1 q c1') q (iv (N ++ P)))
          have hr0 : (Value.slice A1 q c1').ownBlock ≠ some c := fun e => by have := (HROW.out.lt _ e).1; omega
          refine wp_region_held_drew (S := fun w' => w'.cell? ⟨b7, 1, none⟩ = some (.int .i64 n) ∧ w'.cell? ⟨W.heap.size + 1, 0, none⟩ = some (.pointer (some ⟨c, 0, none⟩))) (by kernel_rfl) (by refine ⟨?_, ?_⟩ <;> go_simp) (fun hHeld => ?_)
          refine wpAnyH_take (i := 0) (oi := { dst := some 25, op := Go.Op.load 41 (Go.Operand.tmp 3), type := 41, pos := "law.go:72", after := #[], guard := none }) (v := ?_) rfl (by kernel_rfl) (by kernel_rfl) (by kernel_rfl) (fun _ _ _ h => h) (Or.inl ⟨by rfl, ?_⟩) hHeld ?_
          rotate_left
          · intro w hSw; (try dsimp only at hSw); go_simp <;> with_reducible rfl
          try simp only [Act.put, List.setIfInBounds_toArray, List.set_cons_zero, List.set_cons_succ]
          refine wpAnyH_take (i := 1) (oi := { dst := some 26, op := Go.Op.load 41 (Go.Operand.tmp 3), type := 41, pos := "law.go:72", after := #[], guard := none }) (v := ?_) rfl (by kernel_rfl) (by kernel_rfl) (by kernel_rfl) (fun _ _ _ h => h) (Or.inl ⟨by rfl, ?_⟩) hHeld ?_
          rotate_left
          · intro w hSw; (try dsimp only at hSw); go_simp <;> with_reducible rfl
          try simp only [Act.put, List.setIfInBounds_toArray, List.set_cons_zero, List.set_cons_succ]
          refine wpAnyH_take (i := 2) (oi := { dst := some 27, op := Go.Op.nilCheck (Go.Operand.tmp 26), type := 0, pos := "law.go:72", after := #[{ on := 1, ground := Go.Ground.data }], guard := none }) (v := ?_) rfl (by kernel_rfl) (by kernel_rfl) (by kernel_rfl) (fun _ _ _ h => h) (Or.inl ⟨by rfl, ?_⟩) hHeld ?_
          rotate_left
          · intro w hSw; (try dsimp only at hSw); go_simp <;> with_reducible rfl
          try simp only [Act.put, List.setIfInBounds_toArray, List.set_cons_zero, List.set_cons_succ]
          refine wpAnyH_take (i := 4) (oi := { dst := some 29, op := Go.Op.fieldAddr 55 (Go.Operand.tmp 5) 1, type := 0, pos := "law.go:72", after := #[], guard := none }) (v := ?_) rfl (by kernel_rfl) (by kernel_rfl) (by kernel_rfl) (fun _ _ _ h => h) (Or.inl ⟨by rfl, ?_⟩) hHeld ?_
          rotate_left
          · intro w hSw; (try dsimp only at hSw); go_simp <;> with_reducible rfl
          try simp only [Act.put, List.setIfInBounds_toArray, List.set_cons_zero, List.set_cons_succ]
          refine wpAnyH_take (i := 5) (oi := { dst := some 30, op := Go.Op.load 3 (Go.Operand.tmp 29), type := 3, pos := "law.go:72", after := #[{ on := 4, ground := Go.Ground.data }], guard := none }) (v := ?_) rfl (by kernel_rfl) (by kernel_rfl) (by kernel_rfl) (fun _ _ _ h => h) (Or.inl ⟨by rfl, ?_⟩) hHeld ?_
          rotate_left
          · intro w hSw; (try dsimp only at hSw); go_simp <;> with_reducible rfl
          try simp only [Act.put, List.setIfInBounds_toArray, List.set_cons_zero, List.set_cons_succ]
          refine wpAnyH_ready (rs := [3, 6]) (by kernel_rfl) (by simp) ?_
          refine AllReadyH.cons (o := { dst := some 28, op := Go.Op.load 33 (Go.Operand.tmp 27), type := 33, pos := "law.go:72", after := #[{ on := 2, ground := Go.Ground.data }], guard := none }) rfl (fun K hK => ?_) ?_
          · go_simp
            refine hK.out _ _ (by refine ⟨?_, ?_⟩ <;> go_simp) (fun hHeld3 => ?_)
            clear hK K
            try simp only [Act.put, List.setIfInBounds_toArray, List.set_cons_zero, List.set_cons_succ]
            refine wpAnyH_ready (rs := [6]) (by kernel_rfl) (by simp) ?_
            refine AllReadyH.cons (o := { dst := some 31, op := Go.Op.buildSlice 33 1 #[(0, Go.Operand.tmp 30)], type := 33, pos := "law.go:72", after := #[{ on := 5, ground := Go.Ground.data }], guard := none }) rfl (fun K hK => ?_) ?_
            · go_simp
              refine hK.out _ _ (by refine ⟨?_, ?_⟩ <;> go_simp) (fun hHeld36 => ?_)
              clear hK K
              try simp only [Act.put, List.setIfInBounds_toArray, List.set_cons_zero, List.set_cons_succ]
              refine wpAnyH_ready (rs := [7]) (by kernel_rfl) (by simp) ?_
              refine AllReadyH.cons (o := { dst := some 32, op := Go.Op.call { callee := Go.Callee.builtin Go.Builtin.append, args := #[Go.Operand.tmp 28, Go.Operand.tmp 31], argTypes := #[33, 33] }, type := 33, pos := "law.go:72", after := #[{ on := 3, ground := Go.Ground.data }, { on := 6, ground := Go.Ground.data }], guard := none }) rfl (fun K hK => ?_) ?_
              · refine step_append_lies _ (by rfl) _ _ _ (by rfl) (c + 1) 3 i0 _ 1 8 Try.underlying33 hi hz0 hz1 hz2 rfl (by omega) (.slice A1 q c1') q (iv (N ++ P)) (by rfl) ((HRX.out.alloc _).drew) ⟨X.heap.size, 0, none⟩ 1 1 [.int .i64 n] (by rfl) (by rfl) (news_at (Blk.new X 3 #[.int .i64 n])) (by simp [Value.oneCell']) (by omega) (by unfold maxLen; omega) (by omega) (by simp; omega) (X.heap.size + 1) (by simp) ?_
                intro gg cap1 w1 hown1 hgrow hat hlt1
                have wc : w1.cell? ⟨c, 0, none⟩ = some (.slice A1 q c1') := by rw [hgrow.cell_far _ (by simp; omega) (Ne.symm hr0)]; go_simp
                have wz : w1.frozen? ⟨c, 0, none⟩ = false := by rw [hgrow.frozen_far _ (by simp; omega) (Ne.symm hr0)]; go_simp
                have w7 : w1.cell? ⟨b7, 1, none⟩ = some (.int .i64 n) := by rw [hgrow.cell_far _ (by simp; omega) (Ne.symm hr2)]; go_simp
                have w3 : w1.cell? ⟨W.heap.size + 1, 0, none⟩ = some (.pointer (some ⟨c, 0, none⟩)) := by rw [hgrow.cell_far _ (by simp; omega) (Ne.symm hr1)]; go_simp
                refine hK.out _ _ (⟨w7, w3⟩) (fun hHeld367 => ?_)
                clear hK K
                try simp only [Act.put, List.setIfInBounds_toArray, List.set_cons_zero, List.set_cons_succ]
                refine wpAnyH_ready (rs := [8]) (by kernel_rfl) (by simp) ?_
                refine AllReadyH.cons (o := { dst := some 33, op := Go.Op.nilCheck (Go.Operand.tmp 25), type := 0, pos := "law.go:72", after := #[{ on := 0, ground := Go.Ground.data }, { on := 0, ground := Go.Ground.phase }, { on := 1, ground := Go.Ground.phase }, { on := 2, ground := Go.Ground.phase }, { on := 3, ground := Go.Ground.phase }, { on := 4, ground := Go.Ground.phase }, { on := 5, ground := Go.Ground.phase }, { on := 6, ground := Go.Ground.phase }, { on := 7, ground := Go.Ground.phase }], guard := none }) rfl (fun K hK => ?_) ?_
                · go_simp
                  refine hK.out _ _ (⟨w7, w3⟩) (fun hHeld3678 => ?_)
                  clear hK K
                  try simp only [Act.put, List.setIfInBounds_toArray, List.set_cons_zero, List.set_cons_succ]
                  refine wpAnyH_ready (rs := [9]) (by kernel_rfl) (by simp) ?_
                  refine AllReadyH.cons (o := { dst := none, op := Go.Op.store 33 (Go.Operand.tmp 33) (Go.Operand.tmp 32), type := 0, pos := "law.go:72", after := #[{ on := 8, ground := Go.Ground.data }, { on := 7, ground := Go.Ground.data }, { on := 7, ground := Go.Ground.chain }, { on := 0, ground := Go.Ground.phase }, { on := 1, ground := Go.Ground.phase }, { on := 2, ground := Go.Ground.phase }, { on := 3, ground := Go.Ground.phase }, { on := 4, ground := Go.Ground.phase }, { on := 5, ground := Go.Ground.phase }, { on := 6, ground := Go.Ground.phase }, { on := 7, ground := Go.Ground.phase }], guard := none }) rfl (fun K hK => ?_) ?_
                  · go_simp
                    refine hK.out _ _ (⟨(World.cell?_setCell_far _ _ _ _ hn7).trans w7, (World.cell?_setCell_far _ _ _ _ hn2).trans w3⟩) (fun hHeld36789 => ?_)
                    clear hK K
                    try simp only [Act.put, List.setIfInBounds_toArray, List.set_cons_zero, List.set_cons_succ]
                    refine wpAnyH_done (by kernel_rfl) ?_ _
                    obtain ⟨hna, hka⟩ := notes_append (K := [n]) (k := 1) HO.out HQ.out HBC.out HCS.out HKX.out (by have h1 := HSr.out; rw [← HG7.out] at h1; exact h1) hown1 rfl hgrow hat
                    have HNA := Lib.hid (hna.fewer (fun s hs => List.mem_cons_of_mem _ hs) : Notes _ c ((W.heap.size + 1) :: W.heap.size :: S) _)
                    have HKA := Lib.hid (hka.far (fun s hs => List.mem_cons_of_mem _ hs) : Kept (Far c ((W.heap.size + 1) :: W.heap.size :: S)) wr _)
                    have HBA := Lib.hid (hka.blk HBI.out (fun hx => hx.2 (by simp)))
                    clear hna hka hgrow hown1 hat wc wz w7 w3 x1 x3 xc xz
                    go_upto_region 23 with fail
                    refine wp_forget (fun X9 => Hid (Notes X9 c ((W.heap.size + 1) :: W.heap.size :: S) (N ++ P ++ [n])) ∧ Hid (Kept (Far c ((W.heap.size + 1) :: W.heap.size :: S)) wr X9) ∧ Hid (Blk X9 bi 3 #[.int .i64 i])) ⟨HNA, HKA, HBA⟩ ?_
                    clear HNA HKA HBA
                    rintro X9 ⟨HNA, HKA, HBA⟩
                    have b9 : X9.cell? ⟨bi, 0, none⟩ = some (.int .i64 i) := HBA.out.cell 0
                    have l9 := HBA.out.lt
                    go_wp2_with fail
                    go_roundw
                    case rel => exact ⟨i + 1, _, P ++ [n], rfl, Lib.hid (pin_next HP.out hcl HNA.out HKA.out ⟨_, by rw [HNS.out]; simp, HT2.out⟩ (by rw [HLn.out]; omega) (by simp; omega))⟩
                    case measure => simp [intOf, g4]; omega
                  exact AllReadyH.nil
                exact AllReadyH.nil
              exact AllReadyH.nil
            exact AllReadyH.nil
          refine AllReadyH.cons (o := { dst := some 31, op := Go.Op.buildSlice 33 1 #[(0, Go.Operand.tmp 30)], type := 33, pos := "law.go:72", after := #[{ on := 5, ground := Go.Ground.data }], guard := none }) rfl (fun K hK => ?_) ?_
          · go_simp
            refine hK.out _ _ (by refine ⟨?_, ?_⟩ <;> go_simp) (fun hHeld6 => ?_)
            clear hK K
            try simp only [Act.put, List.setIfInBounds_toArray, List.set_cons_zero, List.set_cons_succ]
            refine wpAnyH_ready (rs := [3]) (by kernel_rfl) (by simp) ?_
            refine AllReadyH.cons (o := { dst := some 28, op := Go.Op.load 33 (Go.Operand.tmp 27), type := 33, pos := "law.go:72", after := #[{ on := 2, ground := Go.Ground.data }], guard := none }) rfl (fun K hK => ?_) ?_
            · go_simp
              refine hK.out _ _ (by refine ⟨?_, ?_⟩ <;> go_simp) (fun hHeld63 => ?_)
              clear hK K
              try simp only [Act.put, List.setIfInBounds_toArray, List.set_cons_zero, List.set_cons_succ]
              refine wpAnyH_ready (rs := [7]) (by kernel_rfl) (by simp) ?_
              refine AllReadyH.cons (o := { dst := some 32, op := Go.Op.call { callee := Go.Callee.builtin Go.Builtin.append, args := #[Go.Operand.tmp 28, Go.Operand.tmp 31], argTypes := #[33, 33] }, type := 33, pos := "law.go:72", after := #[{ on := 3, ground := Go.Ground.data }, { on := 6, ground := Go.Ground.data }], guard := none }) rfl (fun K hK => ?_) ?_
              · refine step_append_lies _ (by rfl) _ _ _ (by rfl) (c + 1) 3 i0 _ 1 8 Try.underlying33 hi hz0 hz1 hz2 rfl (by omega) (.slice A1 q c1') q (iv (N ++ P)) (by rfl) ((HRX.out.alloc _).drew) ⟨X.heap.size, 0, none⟩ 1 1 [.int .i64 n] (by rfl) (by rfl) (news_at (Blk.new X 3 #[.int .i64 n])) (by simp [Value.oneCell']) (by omega) (by unfold maxLen; omega) (by omega) (by simp; omega) (X.heap.size + 1) (by simp) ?_
                intro gg cap1 w1 hown1 hgrow hat hlt1
                have wc : w1.cell? ⟨c, 0, none⟩ = some (.slice A1 q c1') := by rw [hgrow.cell_far _ (by simp; omega) (Ne.symm hr0)]; go_simp
                have wz : w1.frozen? ⟨c, 0, none⟩ = false := by rw [hgrow.frozen_far _ (by simp; omega) (Ne.symm hr0)]; go_simp
                have w7 : w1.cell? ⟨b7, 1, none⟩ = some (.int .i64 n) := by rw [hgrow.cell_far _ (by simp; omega) (Ne.symm hr2)]; go_simp
                have w3 : w1.cell? ⟨W.heap.size + 1, 0, none⟩ = some (.pointer (some ⟨c, 0, none⟩)) := by rw [hgrow.cell_far _ (by simp; omega) (Ne.symm hr1)]; go_simp
                refine hK.out _ _ (⟨w7, w3⟩) (fun hHeld637 => ?_)
                clear hK K
                try simp only [Act.put, List.setIfInBounds_toArray, List.set_cons_zero, List.set_cons_succ]
                refine wpAnyH_ready (rs := [8]) (by kernel_rfl) (by simp) ?_
                refine AllReadyH.cons (o := { dst := some 33, op := Go.Op.nilCheck (Go.Operand.tmp 25), type := 0, pos := "law.go:72", after := #[{ on := 0, ground := Go.Ground.data }, { on := 0, ground := Go.Ground.phase }, { on := 1, ground := Go.Ground.phase }, { on := 2, ground := Go.Ground.phase }, { on := 3, ground := Go.Ground.phase }, { on := 4, ground := Go.Ground.phase }, { on := 5, ground := Go.Ground.phase }, { on := 6, ground := Go.Ground.phase }, { on := 7, ground := Go.Ground.phase }], guard := none }) rfl (fun K hK => ?_) ?_
                · go_simp
                  refine hK.out _ _ (⟨w7, w3⟩) (fun hHeld6378 => ?_)
                  clear hK K
                  try simp only [Act.put, List.setIfInBounds_toArray, List.set_cons_zero, List.set_cons_succ]
                  refine wpAnyH_ready (rs := [9]) (by kernel_rfl) (by simp) ?_
                  refine AllReadyH.cons (o := { dst := none, op := Go.Op.store 33 (Go.Operand.tmp 33) (Go.Operand.tmp 32), type := 0, pos := "law.go:72", after := #[{ on := 8, ground := Go.Ground.data }, { on := 7, ground := Go.Ground.data }, { on := 7, ground := Go.Ground.chain }, { on := 0, ground := Go.Ground.phase }, { on := 1, ground := Go.Ground.phase }, { on := 2, ground := Go.Ground.phase }, { on := 3, ground := Go.Ground.phase }, { on := 4, ground := Go.Ground.phase }, { on := 5, ground := Go.Ground.phase }, { on := 6, ground := Go.Ground.phase }, { on := 7, ground := Go.Ground.phase }], guard := none }) rfl (fun K hK => ?_) ?_
                  · go_simp
                    refine hK.out _ _ (⟨(World.cell?_setCell_far _ _ _ _ hn7).trans w7, (World.cell?_setCell_far _ _ _ _ hn2).trans w3⟩) (fun hHeld63789 => ?_)
                    clear hK K
                    try simp only [Act.put, List.setIfInBounds_toArray, List.set_cons_zero, List.set_cons_succ]
                    refine wpAnyH_done (by kernel_rfl) ?_ _
                    obtain ⟨hna, hka⟩ := notes_append (K := [n]) (k := 1) HO.out HQ.out HBC.out HCS.out HKX.out (by have h1 := HSr.out; rw [← HG7.out] at h1; exact h1) hown1 rfl hgrow hat
                    have HNA := Lib.hid (hna.fewer (fun s hs => List.mem_cons_of_mem _ hs) : Notes _ c ((W.heap.size + 1) :: W.heap.size :: S) _)
                    have HKA := Lib.hid (hka.far (fun s hs => List.mem_cons_of_mem _ hs) : Kept (Far c ((W.heap.size + 1) :: W.heap.size :: S)) wr _)
                    have HBA := Lib.hid (hka.blk HBI.out (fun hx => hx.2 (by simp)))
                    clear hna hka hgrow hown1 hat wc wz w7 w3 x1 x3 xc xz
                    go_upto_region 23 with fail
                    refine wp_forget (fun X9 => Hid (Notes X9 c ((W.heap.size + 1) :: W.heap.size :: S) (N ++ P ++ [n])) ∧ Hid (Kept (Far c ((W.heap.size + 1) :: W.heap.size :: S)) wr X9) ∧ Hid (Blk X9 bi 3 #[.int .i64 i])) ⟨HNA, HKA, HBA⟩ ?_
                    clear HNA HKA HBA
                    rintro X9 ⟨HNA, HKA, HBA⟩
                    have b9 : X9.cell? ⟨bi, 0, none⟩ = some (.int .i64 i) := HBA.out.cell 0
                    have l9 := HBA.out.lt
                    go_wp2_with fail
                    go_roundw
                    case rel => exact ⟨i + 1, _, P ++ [n], rfl, Lib.hid (pin_next HP.out hcl HNA.out HKA.out ⟨_, by rw [HNS.out]; simp, HT2.out⟩ (by rw [HLn.out]; omega) (by simp; omega))⟩
                    case measure => simp [intOf, g4]; omega
                  exact AllReadyH.nil
                exact AllReadyH.nil
              exact AllReadyH.nil
            exact AllReadyH.nil
          exact AllReadyH.nil
        | raise hk =>
          obtain rfl : k = 2 := hk
          have hnt0 : Notes wr c (bi :: (W.heap.size + 1) :: W.heap.size :: S) (N ++ P) := HP.out.1.1
          go_wp2_with (go_at_call 12; refine (raise_any _ _ _).mono ?_; rintro e w' ⟨⟨l, rfl, hl⟩, rfl⟩)
          exact ⟨rfl, ⟨l, rfl, hl⟩, pin_end (K := []) HP.out ((Kept.refl _ wr).alloc _) (by rw [List.append_nil]; exact (good_notes c (N ++ P)).two (hnt0.fewer (fun s hs => by simp [hs])) ((Kept.refl _ wr).alloc _) [] (by simp)) HNS.out⟩
        | must hk ho ht =>
          obtain rfl : k = 3 := hk
          obtain rfl : ok = true := ho
          have HT2 := Lib.hid ht
          clear ht
          have hnt0 : Notes wr c (bi :: (W.heap.size + 1) :: W.heap.size :: S) (N ++ P) := HP.out.1.1
          go_upto_region 23 with (go_at_call 14; refine (must_yes _ _ _).mono ?_; rintro e w' ⟨rfl, rfl⟩)
          refine wp_forget (fun X9 => Hid (Notes X9 c ((W.heap.size + 1) :: W.heap.size :: S) (N ++ P ++ [])) ∧ Hid (Kept (Far c ((W.heap.size + 1) :: W.heap.size :: S)) wr X9) ∧ Hid (Blk X9 bi 3 #[.int .i64 i])) ⟨Lib.hid (by rw [List.append_nil]; exact (good_notes c (N ++ P)).two (hnt0.fewer (fun s hs => List.mem_cons_of_mem _ hs)) ((Kept.refl _ wr).alloc _) [] (by simp)), Lib.hid ((Kept.refl _ wr).alloc _), Lib.hid (HBI.out.alloc _)⟩ ?_
          rintro X9 ⟨HNA, HKA, HBA⟩
          have b9 : X9.cell? ⟨bi, 0, none⟩ = some (.int .i64 i) := HBA.out.cell 0
          have l9 := HBA.out.lt
          clear hnt0 c0 c1 c2 c3 c4 g2 g3 gc zc
          go_wp2_with fail
          go_roundw
          case rel => exact ⟨i + 1, _, P ++ [], rfl, Lib.hid (pin_next HP.out hcl HNA.out HKA.out ⟨_, by rw [HNS.out]; simp, HT2.out⟩ (by rw [HLn.out]; omega) (by simp; omega))⟩
          case measure => simp [intOf, g4]; omega
        | mustnt hk ho =>
          obtain rfl : k = 3 := hk
          obtain rfl : ok = false := ho
          have hnt0 : Notes wr c (bi :: (W.heap.size + 1) :: W.heap.size :: S) (N ++ P) := HP.out.1.1
          go_wp2_with (go_at_call 14; refine (must_no _ _ _).mono ?_; rintro e w' ⟨⟨l, rfl, hl⟩, rfl⟩)
          exact ⟨rfl, ⟨l, rfl, hl⟩, pin_end (K := []) HP.out ((Kept.refl _ wr).alloc _) (by rw [List.append_nil]; exact (good_notes c (N ++ P)).two (hnt0.fewer (fun s hs => by simp [hs])) ((Kept.refl _ wr).alloc _) [] (by simp)) HNS.out⟩
        | skip h1 h2 h3 h4 h5 ht =>
          have g1' : (k == 1) = false := by simpa using h1
          have g2' : (k == 2) = false := by simpa using h2
          have g3' : (k == 3) = false := by simpa using h3
          have g4' : (k == 4) = false := by simpa using h4
          have g5' : (k == 5) = false := by simpa using h5
          have HT2 := Lib.hid ht
          clear h1 h2 h3 h4 h5 ht
          have hnt0 : Notes wr c (bi :: (W.heap.size + 1) :: W.heap.size :: S) (N ++ P) := HP.out.1.1
          go_upto_region 23 with fail
          refine wp_forget (fun X9 => Hid (Notes X9 c ((W.heap.size + 1) :: W.heap.size :: S) (N ++ P ++ [])) ∧ Hid (Kept (Far c ((W.heap.size + 1) :: W.heap.size :: S)) wr X9) ∧ Hid (Blk X9 bi 3 #[.int .i64 i])) ⟨Lib.hid (by rw [List.append_nil]; exact (good_notes c (N ++ P)).two (hnt0.fewer (fun s hs => List.mem_cons_of_mem _ hs)) ((Kept.refl _ wr).alloc _) [] (by simp)), Lib.hid ((Kept.refl _ wr).alloc _), Lib.hid (HBI.out.alloc _)⟩ ?_
          rintro X9 ⟨HNA, HKA, HBA⟩
          have b9 : X9.cell? ⟨bi, 0, none⟩ = some (.int .i64 i) := HBA.out.cell 0
          have l9 := HBA.out.lt
          clear hnt0 c0 c1 c2 c3 c4 g2 g3 gc zc
          go_wp2_with fail
          go_roundw
          case rel => exact ⟨i + 1, _, P ++ [], rfl, Lib.hid (pin_next HP.out hcl HNA.out HKA.out ⟨_, by rw [HNS.out]; simp, HT2.out⟩ (by rw [HLn.out]; omega) (by simp; omega))⟩
          case measure => simp [intOf, g4]; omega
        | div hk =>
          obtain rfl : k = 4 := hk
          have hnt0 : Notes wr c (bi :: (W.heap.size + 1) :: W.heap.size :: S) (N ++ P) := HP.out.1.1
          go_upto_region 14 with fail
          refine wp_forget (fun X => Hid (Kept (fun _ => False) wr X) ∧ wr.heap.size + 1 = X.heap.size ∧ Hid (Blk X wr.heap.size 55 #[.int .i64 4, .int .i64 n, .int .i64 a, .int .i64 d, .bool ok])) ⟨Lib.hid ((Kept.refl _ wr).alloc _), by simp only [World.size_alloc], Lib.hid (Blk.new _ _ _)⟩ ?_
          rintro X ⟨HKX, hXs, HBX⟩
          have x1 : X.cell? ⟨wr.heap.size, 1, none⟩ = some (.int .i64 n) := HBX.out.cell 1
          have x3 : X.cell? ⟨W.heap.size + 1, 0, none⟩ = some (.pointer (some ⟨c, 0, none⟩)) := (HKX.out.blk HB3.out (fun h => h)).cell 0
          have xc : X.cell? ⟨c, 0, none⟩ = some (.slice A1 q c1') := (HKX.out.blk HBC.out (fun h => h)).cell 0
          clear c0 c1 c2 c3 c4 g2 g3 gc zc
          generalize wr.heap.size = b7 at *
          refine wp_region_held_drew (S := fun w' => w'.cell? ⟨b7, 1, none⟩ = some (.int .i64 n) ∧ w'.cell? ⟨W.heap.size + 1, 0, none⟩ = some (.pointer (some ⟨c, 0, none⟩)) ∧ w'.cell? ⟨c, 0, none⟩ = some (.slice A1 q c1')) (by kernel_rfl) (by refine ⟨?_, ?_, ?_⟩ <;> go_simp) (fun hHeld => ?_)
          refine wpAnyH_take (i := 0) (oi := { dst := some 57, op := Go.Op.load 41 (Go.Operand.tmp 3), type := 41, pos := "law.go:79", after := #[], guard := none }) (v := ?_) rfl (by kernel_rfl) (by kernel_rfl) (by kernel_rfl) (fun _ _ _ h => h) (Or.inl ⟨by rfl, ?_⟩) hHeld ?_
          rotate_left
          · intro w hSw; (try dsimp only at hSw); go_simp <;> with_reducible rfl
          try simp only [Act.put, List.setIfInBounds_toArray, List.set_cons_zero, List.set_cons_succ]
          refine wpAnyH_take (i := 1) (oi := { dst := some 58, op := Go.Op.load 41 (Go.Operand.tmp 3), type := 41, pos := "law.go:79", after := #[], guard := none }) (v := ?_) rfl (by kernel_rfl) (by kernel_rfl) (by kernel_rfl) (fun _ _ _ h => h) (Or.inl ⟨by rfl, ?_⟩) hHeld ?_
          rotate_left
          · intro w hSw; (try dsimp only at hSw); go_simp <;> with_reducible rfl
          try simp only [Act.put, List.setIfInBounds_toArray, List.set_cons_zero, List.set_cons_succ]
          refine wpAnyH_take (i := 2) (oi := { dst := some 59, op := Go.Op.nilCheck (Go.Operand.tmp 58), type := 0, pos := "law.go:79", after := #[{ on := 1, ground := Go.Ground.data }], guard := none }) (v := ?_) rfl (by kernel_rfl) (by kernel_rfl) (by kernel_rfl) (fun _ _ _ h => h) (Or.inl ⟨by rfl, ?_⟩) hHeld ?_
          rotate_left
          · intro w hSw; (try dsimp only at hSw); go_simp <;> with_reducible rfl
          try simp only [Act.put, List.setIfInBounds_toArray, List.set_cons_zero, List.set_cons_succ]
          refine wpAnyH_take (i := 3) (oi := { dst := some 60, op := Go.Op.load 33 (Go.Operand.tmp 59), type := 33, pos := "law.go:79", after := #[{ on := 2, ground := Go.Ground.data }], guard := none }) (v := ?_) rfl (by kernel_rfl) (by kernel_rfl) (by kernel_rfl) (fun _ _ _ h => h) (Or.inl ⟨by rfl, ?_⟩) hHeld ?_
          rotate_left
          · intro w hSw; (try dsimp only at hSw); go_simp <;> with_reducible rfl
          try simp only [Act.put, List.setIfInBounds_toArray, List.set_cons_zero, List.set_cons_succ]
          refine wpAnyH_take (i := 4) (oi := { dst := some 61, op := Go.Op.fieldAddr 55 (Go.Operand.tmp 5) 1, type := 0, pos := "law.go:79", after := #[], guard := none }) (v := ?_) rfl (by kernel_rfl) (by kernel_rfl) (by kernel_rfl) (fun _ _ _ h => h) (Or.inl ⟨by rfl, ?_⟩) hHeld ?_
          rotate_left
          · intro w hSw; (try dsimp only at hSw); go_simp <;> with_reducible rfl
          try simp only [Act.put, List.setIfInBounds_toArray, List.set_cons_zero, List.set_cons_succ]
          refine wpAnyH_take (i := 5) (oi := { dst := some 62, op := Go.Op.load 3 (Go.Operand.tmp 61), type := 3, pos := "law.go:79", after := #[{ on := 4, ground := Go.Ground.data }], guard := none }) (v := ?_) rfl (by kernel_rfl) (by kernel_rfl) (by kernel_rfl) (fun _ _ _ h => h) (Or.inl ⟨by rfl, ?_⟩) hHeld ?_
          rotate_left
          · intro w hSw; (try dsimp only at hSw); go_simp <;> with_reducible rfl
          try simp only [Act.put, List.setIfInBounds_toArray, List.set_cons_zero, List.set_cons_succ]
          refine wpAnyH_take (i := 6) (oi := { dst := some 63, op := Go.Op.move (Go.Operand.tmp 6), type := 3, pos := "law.go:79", after := #[], guard := none }) (v := ?_) rfl (by kernel_rfl) (by kernel_rfl) (by kernel_rfl) (fun _ _ _ h => h) (Or.inl ⟨by rfl, ?_⟩) hHeld ?_
          rotate_left
          · intro w hSw; (try dsimp only at hSw); go_simp <;> with_reducible rfl
          try simp only [Act.put, List.setIfInBounds_toArray, List.set_cons_zero, List.set_cons_succ]
          refine wpAnyH_ready (rs := [7]) (by kernel_rfl) (by simp) ?_
          refine AllReadyH.cons (o := { dst := some 64, op := Go.Op.binOp Go.BinOp.quo 3 (Go.Operand.tmp 62) (Go.Operand.tmp 63) 3, type := 3, pos := "law.go:79", after := #[{ on := 5, ground := Go.Ground.data }, { on := 6, ground := Go.Ground.data }], guard := none }) rfl (fun K hK => ?_) ?_
          · go_simp
            refine ⟨rfl, ⟨_, _, rfl, tail_nil⟩, pin_end (K := []) HP.out ((HKX.out.mono fun _ _ h => h.elim).drew) (by rw [List.append_nil]; exact (good_notes c (N ++ P)).two (hnt0.fewer (fun s hs => by simp [hs])) HKX.out.drew [] (by simp)) HNS.out⟩
          exact AllReadyH.nil
        | @stop _ _ _ hk ht =>
          have HTS := ht
          clear ht
          obtain rfl : k = 5 := hk
          have hnt0 : Notes wr c (bi :: (W.heap.size + 1) :: W.heap.size :: S) (N ++ P) := HP.out.1.1
          have hact5 : I64 d := by
            have h1 := HLn.out
            have hmem : (⟨5, n, a, d, ok⟩ : Act) ∈ L := by
              rw [← HACT.out, List.getD_eq_getElem?_getD, List.getElem?_eq_getElem (by omega)]
              exact List.getElem_mem _
            exact (HOK.out _ hmem).2.2.2
          obtain ⟨hd1, hd2⟩ := hact5
          have hdl : (L.drop (i + 1)).length = Ln - i - 1 := by rw [List.length_drop, HLn.out]; omega
          have hkl := kk_le ⟨5, n, a, d, ok⟩ (L.drop (i + 1))
          have hkw := kk_wit ⟨5, n, a, d, ok⟩ (L.drop (i + 1))
          obtain ⟨K, hK⟩ : ∃ K, kk ⟨5, n, a, d, ok⟩ (L.drop (i + 1)) = K := ⟨_, rfl⟩
          rw [hK, hdl] at hkw
          rw [hK, hdl] at hkl
          rw [hK] at HTS
          have hkw2 : wit d 0 ((Ln : Int) - (i : Int) - 1) = (K : Int) := by rw [← hkw]; congr 1; omega
          have HKW := Lib.hid hkw2
          have hsA : AS W0 (.slice (some ⟨b, off, none⟩) Ln cap) L := by have := HA.out; rwa [HLn.out] at this
          obtain ⟨A', c', hsl, hsub⟩ := run_mid hsA (i + 1) K (by rw [HLn.out]; omega) ((i : Int) + 1) ((i : Int) + 1 + (K : Int)) (by omega) (by omega)
          obtain ⟨sub, hsb⟩ : ∃ sub, (L.drop (i + 1)).take K = sub := ⟨_, rfl⟩
          rw [hsb] at hsub
          rw [hsb] at HTS
          have hsbl : sub.length = K := by rw [← hsb, List.length_take, hdl]; omega
          have hsok : AOk sub := fun x hx => HOK.out x (by rw [← hsb] at hx; exact List.mem_of_mem_drop (List.mem_of_mem_take hx))
          have h42 := inner42 W0 c hW0 m (by omega) L sub (some ⟨b, off, none⟩) A' Ln cap c' W.heap.size (W.heap.size + 1) bi (wr.heap.size + 1) i K (N ++ P) rest .other hsl hsub hsok hsbl (by omega) (by omega) (by omega) HTS (by rw [List.length_append]; omega) HIH.out
          have H42 := Lib.hid h42
          have hKn : K ≤ Ln - i - 1 := hkl
          have HHK := Lib.hid hK
          have HSBL := Lib.hid hsbl
          have hnl1 := told_len HTS
          rw [hsbl] at hnl1
          have HNL := Lib.hid hnl1
          clear hnl1
          clear hkl hkw hkw2 hK hsA hsub hsb hsok hdl hsl h42 hsbl
          go_upto_region 17 with (go_at_call 34; refine (wit_any _ _ _ _ (by decide) (by omega) (by omega) (by omega) (by omega)).mono ?_; rintro e w1 ⟨rfl, rfl⟩; rw [HKW.out])
          refine wp_forget (fun X => Hid (Kept (fun _ => False) wr X) ∧ wr.heap.size + 1 + 1 = X.heap.size ∧ Hid (Blk X (wr.heap.size + 1) 3 #[.int .i64 K])) ⟨Lib.hid (((Kept.refl _ wr).alloc _).alloc _), by simp only [World.size_alloc], Lib.hid (Blk.new_at (by simp only [World.size_alloc]))⟩ ?_
          rintro X ⟨HKX, hXs, HB7⟩
          have hP7 : PlayP W0 c (N ++ P) ([wr.heap.size + 1, W.heap.size + 1, bi, W.heap.size] ++ S) X := playP_good W0 c (N ++ P) _ _ wr X HP.out.1 (HKX.out.mono fun _ _ h => h.elim) (fun s hs => by
            simp only [List.cons_append, List.nil_append, List.mem_cons] at hs ⊢
            rcases hs with rfl | rfl | rfl | rfl | hs
            · exact .inr (by omega)
            · exact .inl (by simp)
            · exact .inl (by simp)
            · exact .inl (by simp)
            · exact .inl (by simp [hs]))
          have hnS : ∀ x, W.heap.size ≤ x → x ∉ S := fun x hx h => by have := HS.out x h; omega
          have hSe : Seen (some ⟨b, off, none⟩) Ln cap c W.heap.size (W.heap.size + 1) bi (wr.heap.size + 1) i K S X := ⟨⟨HKX.out.blk HB2.out (fun h => h), hnS _ (Nat.le_refl _)⟩, ⟨HKX.out.blk HBI.out (fun h => h), hnS _ (by omega)⟩, ⟨HB7.out, hnS _ (by omega)⟩, ⟨HKX.out.blk HB3.out (fun h => h), hnS _ (by omega)⟩⟩
          have hSX : ∀ s ∈ S, s < X.heap.size := fun s hs => by have := HS.out s hs; omega
          have HCG := Lib.hid (call_good (good_and (good_more (playP_good W0 c (N ++ P)) [wr.heap.size + 1, W.heap.size + 1, bi, W.heap.size]) (seen_good _ _ _ _ _ _ _ _ _ _)) (fun h => good_and (good_const _) (good_and (good_more (playP_good W0 c (N ++ P ++ rest)) [wr.heap.size + 1, W.heap.size + 1, bi, W.heap.size]) (seen_good _ _ _ _ _ _ _ _ _ _))) (by intro X; simp [go_sem]) H42.out S X hSX ⟨hP7, hSe⟩)
          clear hP7 hSe hSX c0 c1 c2 c3 c4 g2 g3 gc zc hnS
          go_wp2_with fail
          refine HCG.out.mono ?_
          rintro e w2 ⟨h', hce, hkc, hh', hpp2, hSe2⟩
          rw [hh'] at hce
          clear hh' h'
          have hwr2 : Kept (Far c S) wr w2 := (HKX.out.mono fun _ _ h => h.elim).trans (Kept.mono (X := Far c S) ⟨hkc.os, hkc.tape, hkc.output, hkc.size, fun k hk hx => hkc.block k hk hx⟩ fun _ _ h => h)
          have hs2 := hkc.size
          have hwr3 : Kept (Far c ((W.heap.size + 1) :: W.heap.size :: S)) wr w2 := ⟨hwr2.os, hwr2.tape, hwr2.output, hwr2.size, fun k hk hx => by
            by_cases e3 : k = W.heap.size + 1
            · rw [e3]; exact hSe2.2.2.2.1.trans HB3.out.symm
            by_cases e2 : k = W.heap.size
            · rw [e2]; exact hSe2.1.1.trans HB2.out.symm
            exact hwr2.block k hk (fun hf => hx ⟨hf.1, by simp only [List.mem_cons, not_or]; exact ⟨e3, e2, hf.2⟩⟩)⟩
          obtain ⟨x, l, rfl, hl⟩ := hce
          exact ⟨rfl, ⟨x, l, rfl, hl⟩, HP.out.2.1.trans hwr2, by rw [HNS.out, ← List.append_assoc]; exact playP_good W0 c (N ++ P ++ rest) _ _ w2 w2 hpp2 (Kept.refl _ w2) (fun s hs => .inl (by simp [hs]))⟩
        | @call _ _ ns1 ms h1 _ hk ht hn ht' =>
          have HTS := ht
          have HT3 := Lib.hid ht'
          clear ht ht'
          obtain rfl : k = 5 := hk
          have hnt0 : Notes wr c (bi :: (W.heap.size + 1) :: W.heap.size :: S) (N ++ P) := HP.out.1.1
          have hact5 : I64 d := by
            have h1 := HLn.out
            have hmem : (⟨5, n, a, d, ok⟩ : Act) ∈ L := by
              rw [← HACT.out, List.getD_eq_getElem?_getD, List.getElem?_eq_getElem (by omega)]
              exact List.getElem_mem _
            exact (HOK.out _ hmem).2.2.2
          obtain ⟨hd1, hd2⟩ := hact5
          have hdl : (L.drop (i + 1)).length = Ln - i - 1 := by rw [List.length_drop, HLn.out]; omega
          have hkl := kk_le ⟨5, n, a, d, ok⟩ (L.drop (i + 1))
          have hkw := kk_wit ⟨5, n, a, d, ok⟩ (L.drop (i + 1))
          obtain ⟨K, hK⟩ : ∃ K, kk ⟨5, n, a, d, ok⟩ (L.drop (i + 1)) = K := ⟨_, rfl⟩
          rw [hK, hdl] at hkw
          rw [hK, hdl] at hkl
          rw [hK] at HTS
          have hkw2 : wit d 0 ((Ln : Int) - (i : Int) - 1) = (K : Int) := by rw [← hkw]; congr 1; omega
          have HKW := Lib.hid hkw2
          have hsA : AS W0 (.slice (some ⟨b, off, none⟩) Ln cap) L := by have := HA.out; rwa [HLn.out] at this
          obtain ⟨A', c', hsl, hsub⟩ := run_mid hsA (i + 1) K (by rw [HLn.out]; omega) ((i : Int) + 1) ((i : Int) + 1 + (K : Int)) (by omega) (by omega)
          obtain ⟨sub, hsb⟩ : ∃ sub, (L.drop (i + 1)).take K = sub := ⟨_, rfl⟩
          rw [hsb] at hsub
          rw [hsb] at HTS
          have hsbl : sub.length = K := by rw [← hsb, List.length_take, hdl]; omega
          have hsok : AOk sub := fun x hx => HOK.out x (by rw [← hsb] at hx; exact List.mem_of_mem_drop (List.mem_of_mem_take hx))
          have h42 := inner42 W0 c hW0 m (by omega) L sub (some ⟨b, off, none⟩) A' Ln cap c' W.heap.size (W.heap.size + 1) bi (wr.heap.size + 1) i K (N ++ P) ns1 h1 hsl hsub hsok hsbl (by omega) (by omega) (by omega) HTS (by rw [List.length_append]; omega) HIH.out
          have H42 := Lib.hid h42
          have hKn : K ≤ Ln - i - 1 := hkl
          have HHK := Lib.hid hK
          have HSBL := Lib.hid hsbl
          have hnl1 := told_len HTS
          rw [hsbl] at hnl1
          have HNL := Lib.hid hnl1
          clear hnl1
          clear hkl hkw hkw2 hK hsA hsub hsb hsok hdl hsl h42 hsbl
          go_upto_region 17 with (go_at_call 34; refine (wit_any _ _ _ _ (by decide) (by omega) (by omega) (by omega) (by omega)).mono ?_; rintro e w1 ⟨rfl, rfl⟩; rw [HKW.out])
          refine wp_forget (fun X => Hid (Kept (fun _ => False) wr X) ∧ wr.heap.size + 1 + 1 = X.heap.size ∧ Hid (Blk X (wr.heap.size + 1) 3 #[.int .i64 K])) ⟨Lib.hid (((Kept.refl _ wr).alloc _).alloc _), by simp only [World.size_alloc], Lib.hid (Blk.new_at (by simp only [World.size_alloc]))⟩ ?_
          rintro X ⟨HKX, hXs, HB7⟩
          have hP7 : PlayP W0 c (N ++ P) ([wr.heap.size + 1, W.heap.size + 1, bi, W.heap.size] ++ S) X := playP_good W0 c (N ++ P) _ _ wr X HP.out.1 (HKX.out.mono fun _ _ h => h.elim) (fun s hs => by
            simp only [List.cons_append, List.nil_append, List.mem_cons] at hs ⊢
            rcases hs with rfl | rfl | rfl | rfl | hs
            · exact .inr (by omega)
            · exact .inl (by simp)
            · exact .inl (by simp)
            · exact .inl (by simp)
            · exact .inl (by simp [hs]))
          have hnS : ∀ x, W.heap.size ≤ x → x ∉ S := fun x hx h => by have := HS.out x h; omega
          have hSe : Seen (some ⟨b, off, none⟩) Ln cap c W.heap.size (W.heap.size + 1) bi (wr.heap.size + 1) i K S X := ⟨⟨HKX.out.blk HB2.out (fun h => h), hnS _ (Nat.le_refl _)⟩, ⟨HKX.out.blk HBI.out (fun h => h), hnS _ (by omega)⟩, ⟨HB7.out, hnS _ (by omega)⟩, ⟨HKX.out.blk HB3.out (fun h => h), hnS _ (by omega)⟩⟩
          have hSX : ∀ s ∈ S, s < X.heap.size := fun s hs => by have := HS.out s hs; omega
          have HCG := Lib.hid (call_good (good_and (good_more (playP_good W0 c (N ++ P)) [wr.heap.size + 1, W.heap.size + 1, bi, W.heap.size]) (seen_good _ _ _ _ _ _ _ _ _ _)) (fun h => good_and (good_const _) (good_and (good_more (playP_good W0 c (N ++ P ++ ns1)) [wr.heap.size + 1, W.heap.size + 1, bi, W.heap.size]) (seen_good _ _ _ _ _ _ _ _ _ _))) (by intro X; simp [go_sem]) H42.out S X hSX ⟨hP7, hSe⟩)
          clear hP7 hSe hSX c0 c1 c2 c3 c4 g2 g3 gc zc hnS
          go_wp2_with fail
          refine HCG.out.mono ?_
          rintro e w2 ⟨h', hce, hkc, hh', hpp2, hSe2⟩
          rw [hh'] at hce
          clear hh' h'
          have hwr2 : Kept (Far c S) wr w2 := (HKX.out.mono fun _ _ h => h.elim).trans (Kept.mono (X := Far c S) ⟨hkc.os, hkc.tape, hkc.output, hkc.size, fun k hk hx => hkc.block k hk hx⟩ fun _ _ h => h)
          have hs2 := hkc.size
          have hwr3 : Kept (Far c ((W.heap.size + 1) :: W.heap.size :: S)) wr w2 := ⟨hwr2.os, hwr2.tape, hwr2.output, hwr2.size, fun k hk hx => by
            by_cases e3 : k = W.heap.size + 1
            · rw [e3]; exact hSe2.2.2.2.1.trans HB3.out.symm
            by_cases e2 : k = W.heap.size
            · rw [e2]; exact hSe2.1.1.trans HB2.out.symm
            exact hwr2.block k hk (fun hf => hx ⟨hf.1, by simp only [List.mem_cons, not_or]; exact ⟨e3, e2, hf.2⟩⟩)⟩
          cases h1 with
          | other => exact absurd rfl hn
          | fine =>
            obtain rfl := hce
            have hs2' := hs2
            go_upto_region 18 with fail
            refine wp_forget (fun X8 => Hid (Notes X8 c ((wr.heap.size + 1) :: bi :: (W.heap.size + 1) :: W.heap.size :: S) (N ++ P ++ ns1)) ∧ Hid (Kept (Far c ((W.heap.size + 1) :: W.heap.size :: S)) wr X8) ∧ Hid (Blk X8 (W.heap.size + 1) 41 #[.pointer (some ⟨c, 0, none⟩)]) ∧ Hid (Blk X8 bi 3 #[.int .i64 i]) ∧ Hid (Blk X8 (wr.heap.size + 1) 3 #[.int .i64 K]) ∧ Hid (Blk X8 w2.heap.size 23 #[.int .i64 0, .int .i64 0])) ⟨Lib.hid ((good_notes c (N ++ P ++ ns1)) _ _ w2 _ hpp2.1 ((Kept.refl _ w2).alloc _) (fun s hs => .inl (by simp only [List.mem_cons] at hs; rcases hs with h | h | h | h | h <;> simp [h]))), Lib.hid (hwr3.alloc _), Lib.hid (hSe2.2.2.2.1.alloc _), Lib.hid (hSe2.2.1.1.alloc _), Lib.hid (hSe2.2.2.1.1.alloc _), Lib.hid (Blk.new _ _ _)⟩ ?_
            rintro X8 ⟨HN8, HK8, H38, HI8, H78, H88⟩
            obtain ⟨r2, hb2, hc2, ho2⟩ := id HN8.out
            obtain ⟨A2, c2', rfl⟩ := ho2.form
            obtain ⟨q2, hq2⟩ : ∃ q2, (N ++ P ++ ns1).length = q2 := ⟨_, rfl⟩
            have hq2l : q2 ≤ 10000 := by
              have h1 := congrArg List.length HNS.out
              simp only [List.length_append, List.length_cons, List.length_nil] at h1
              rw [← hq2, List.length_append, List.length_append]
              omega
            rw [hq2] at hb2 ho2
            have hrow2 := ho2.row
            rw [hq2] at hrow2
            have HQ2 := Lib.hid hq2
            have HR2 := Lib.hid hrow2
            have HO2 := Lib.hid ho2
            have HC2 := Lib.hid hb2
            have HCS2 := Lib.hid hc2
            have hr0 : (Value.slice A2 q2 c2').ownBlock ≠ some c := fun e => by have := (hrow2.lt _ e).1; omega
            have hr1 : (Value.slice A2 q2 c2').ownBlock ≠ some (W.heap.size + 1) := fun e => ho2.far _ e (by simp)
            have hr2 : (Value.slice A2 q2 c2').ownBlock ≠ some w2.heap.size := fun e => by
              have h1 := own_type2 hrow2 H88.out e.symm
              exact absurd h1 (by decide)
            have hl8 := H88.out.lt
            have hl38 := H38.out.lt
            have hlc8 := hb2.lt
            have hli8 := HI8.out.lt
            have hl78 := H78.out.lt
            have hn8 : c ≠ w2.heap.size := by omega
            have HSR2 := Lib.hid (fun s hs => by
              simp only [List.mem_cons] at hs
              rcases hs with h | h | h | h | h
              · omega
              · omega
              · omega
              · omega
              · have := HS.out s h; omega : ∀ s ∈ (wr.heap.size + 1) :: bi :: (W.heap.size + 1) :: W.heap.size :: S, s < X8.heap.size)
            have x3 : X8.cell? ⟨W.heap.size + 1, 0, none⟩ = some (.pointer (some ⟨c, 0, none⟩)) := H38.out.cell 0
            have xc : X8.cell? ⟨c, 0, none⟩ = some (.slice A2 q2 c2') := hb2.cell 0
            have xz : X8.frozen? ⟨c, 0, none⟩ = false := hb2.frozen 0
            have x80 : X8.cell? ⟨w2.heap.size, 0, none⟩ = some (.int .i64 0) := H88.out.cell 0
            have x81 : X8.cell? ⟨w2.heap.size, 1, none⟩ = some (.int .i64 0) := H88.out.cell 1
            clear hpp2 hSe2 hwr2 hwr3 hkc hb2 hc2 ho2 hrow2 hq2
            go_upto_region 21 with fail
            generalize w2.heap.size = b8 at *
            refine wp_region_held_drew (S := fun w' => w'.cell? ⟨W.heap.size + 1, 0, none⟩ = some (.pointer (some ⟨c, 0, none⟩)) ∧ w'.cell? ⟨b8, 0, none⟩ = some (.int .i64 0) ∧ w'.cell? ⟨b8, 1, none⟩ = some (.int .i64 0)) (by kernel_rfl) (by refine ⟨?_, ?_, ?_⟩ <;> go_simp) (fun hHeld => ?_)
            refine wpAnyH_take (i := 0) (oi := { dst := some 84, op := Go.Op.load 41 (Go.Operand.tmp 3), type := 41, pos := "law.go:87", after := #[], guard := none }) (v := ?_) rfl (by kernel_rfl) (by kernel_rfl) (by kernel_rfl) (fun _ _ _ h => h) (Or.inl ⟨by rfl, ?_⟩) hHeld ?_
            rotate_left
            · intro w hSw; (try dsimp only at hSw); go_simp <;> with_reducible rfl
            try simp only [Act.put, List.setIfInBounds_toArray, List.set_cons_zero, List.set_cons_succ]
            refine wpAnyH_take (i := 1) (oi := { dst := some 85, op := Go.Op.load 41 (Go.Operand.tmp 3), type := 41, pos := "law.go:87", after := #[], guard := none }) (v := ?_) rfl (by kernel_rfl) (by kernel_rfl) (by kernel_rfl) (fun _ _ _ h => h) (Or.inl ⟨by rfl, ?_⟩) hHeld ?_
            rotate_left
            · intro w hSw; (try dsimp only at hSw); go_simp <;> with_reducible rfl
            try simp only [Act.put, List.setIfInBounds_toArray, List.set_cons_zero, List.set_cons_succ]
            refine wpAnyH_take (i := 2) (oi := { dst := some 86, op := Go.Op.nilCheck (Go.Operand.tmp 85), type := 0, pos := "law.go:87", after := #[{ on := 1, ground := Go.Ground.data }], guard := none }) (v := ?_) rfl (by kernel_rfl) (by kernel_rfl) (by kernel_rfl) (fun _ _ _ h => h) (Or.inl ⟨by rfl, ?_⟩) hHeld ?_
            rotate_left
            · intro w hSw; (try dsimp only at hSw); go_simp <;> with_reducible rfl
            try simp only [Act.put, List.setIfInBounds_toArray, List.set_cons_zero, List.set_cons_succ]
            refine wpAnyH_take (i := 4) (oi := { dst := some 88, op := Go.Op.move (Go.Operand.tmp 10), type := 3, pos := "law.go:87", after := #[], guard := none }) (v := ?_) rfl (by kernel_rfl) (by kernel_rfl) (by kernel_rfl) (fun _ _ _ h => h) (Or.inl ⟨by rfl, ?_⟩) hHeld ?_
            rotate_left
            · intro w hSw; (try dsimp only at hSw); go_simp <;> with_reducible rfl
            try simp only [Act.put, List.setIfInBounds_toArray, List.set_cons_zero, List.set_cons_succ]
            refine wpAnyH_take (i := 5) (oi := { dst := some 89, op := Go.Op.fieldAddr 23 (Go.Operand.tmp 8) 0, type := 0, pos := "law.go:87", after := #[], guard := none }) (v := ?_) rfl (by kernel_rfl) (by kernel_rfl) (by kernel_rfl) (fun _ _ _ h => h) (Or.inl ⟨by rfl, ?_⟩) hHeld ?_
            rotate_left
            · intro w hSw; (try dsimp only at hSw); go_simp <;> with_reducible rfl
            try simp only [Act.put, List.setIfInBounds_toArray, List.set_cons_zero, List.set_cons_succ]
            refine wpAnyH_take (i := 6) (oi := { dst := some 90, op := Go.Op.load 3 (Go.Operand.tmp 89), type := 3, pos := "law.go:87", after := #[{ on := 5, ground := Go.Ground.data }], guard := none }) (v := ?_) rfl (by kernel_rfl) (by kernel_rfl) (by kernel_rfl) (fun _ _ _ h => h) (Or.inl ⟨by rfl, ?_⟩) hHeld ?_
            rotate_left
            · intro w hSw; (try dsimp only at hSw); go_simp <;> with_reducible rfl
            try simp only [Act.put, List.setIfInBounds_toArray, List.set_cons_zero, List.set_cons_succ]
            refine wpAnyH_take (i := 7) (oi := { dst := some 91, op := Go.Op.fieldAddr 23 (Go.Operand.tmp 8) 1, type := 0, pos := "law.go:87", after := #[], guard := none }) (v := ?_) rfl (by kernel_rfl) (by kernel_rfl) (by kernel_rfl) (fun _ _ _ h => h) (Or.inl ⟨by rfl, ?_⟩) hHeld ?_
            rotate_left
            · intro w hSw; (try dsimp only at hSw); go_simp <;> with_reducible rfl
            try simp only [Act.put, List.setIfInBounds_toArray, List.set_cons_zero, List.set_cons_succ]
            refine wpAnyH_take (i := 8) (oi := { dst := some 92, op := Go.Op.load 3 (Go.Operand.tmp 91), type := 3, pos := "law.go:87", after := #[{ on := 7, ground := Go.Ground.data }], guard := none }) (v := ?_) rfl (by kernel_rfl) (by kernel_rfl) (by kernel_rfl) (fun _ _ _ h => h) (Or.inl ⟨by rfl, ?_⟩) hHeld ?_
            rotate_left
            · intro w hSw; (try dsimp only at hSw); go_simp <;> with_reducible rfl
            try simp only [Act.put, List.setIfInBounds_toArray, List.set_cons_zero, List.set_cons_succ]
            refine wpAnyH_ready (rs := [3, 9]) (by kernel_rfl) (by simp) ?_
            refine AllReadyH.cons (o := { dst := some 87, op := Go.Op.load 33 (Go.Operand.tmp 86), type := 33, pos := "law.go:87", after := #[{ on := 2, ground := Go.Ground.data }], guard := none }) rfl (fun K hK => ?_) ?_
            · go_simp
              refine hK.out _ _ (by refine ⟨?_, ?_, ?_⟩ <;> go_simp) (fun hHeld3 => ?_)
              clear hK K
              try simp only [Act.put, List.setIfInBounds_toArray, List.set_cons_zero, List.set_cons_succ]
              refine wpAnyH_ready (rs := [9]) (by kernel_rfl) (by simp) ?_
              refine AllReadyH.cons (o := { dst := some 93, op := Go.Op.buildSlice 33 3 #[(0, Go.Operand.tmp 88), (1, Go.Operand.tmp 90), (2, Go.Operand.tmp 92)], type := 33, pos := "law.go:87", after := #[{ on := 4, ground := Go.Ground.data }, { on := 6, ground := Go.Ground.data }, { on := 8, ground := Go.Ground.data }], guard := none }) rfl (fun K hK => ?_) ?_
              · go_simp
                refine hK.out _ _ (by refine ⟨?_, ?_, ?_⟩ <;> go_simp) (fun hHeld39 => ?_)
                clear hK K
                try simp only [Act.put, List.setIfInBounds_toArray, List.set_cons_zero, List.set_cons_succ]
                refine wpAnyH_ready (rs := [10]) (by kernel_rfl) (by simp) ?_
                refine AllReadyH.cons (o := { dst := some 94, op := Go.Op.call { callee := Go.Callee.builtin Go.Builtin.append, args := #[Go.Operand.tmp 87, Go.Operand.tmp 93], argTypes := #[33, 33] }, type := 33, pos := "law.go:87", after := #[{ on := 3, ground := Go.Ground.data }, { on := 9, ground := Go.Ground.data }], guard := none }) rfl (fun K hK => ?_) ?_
                · refine step_append_lies _ (by rfl) _ _ _ (by rfl) (c + 1) 3 i0 _ 1 8 Try.underlying33 hi hz0 hz1 hz2 rfl (by omega) (.slice A2 q2 c2') q2 (iv (N ++ P ++ ns1)) (by rfl) ((HR2.out.alloc _).drew) ⟨X8.heap.size, 0, none⟩ 3 3 [.int .i64 0, .int .i64 0, .int .i64 0] (by rfl) (by rfl) (news_at (Blk.new X8 3 #[.int .i64 0, .int .i64 0, .int .i64 0])) (by simp [Value.oneCell']) (by omega) (by unfold maxLen; omega) (by omega) (by simp; omega) (X8.heap.size + 1) (by simp) ?_
                  intro gg cap1 w1 hown1 hgrow hat hlt1
                  have wc : w1.cell? ⟨c, 0, none⟩ = some (.slice A2 q2 c2') := by rw [hgrow.cell_far _ (by simp; omega) (Ne.symm hr0)]; go_simp
                  have wz : w1.frozen? ⟨c, 0, none⟩ = false := by rw [hgrow.frozen_far _ (by simp; omega) (Ne.symm hr0)]; go_simp
                  have w3 : w1.cell? ⟨W.heap.size + 1, 0, none⟩ = some (.pointer (some ⟨c, 0, none⟩)) := by rw [hgrow.cell_far _ (by simp; omega) (Ne.symm hr1)]; go_simp
                  have w80 : w1.cell? ⟨b8, 0, none⟩ = some (.int .i64 0) := by rw [hgrow.cell_far _ (by simp; omega) (Ne.symm hr2)]; go_simp
                  have w81 : w1.cell? ⟨b8, 1, none⟩ = some (.int .i64 0) := by rw [hgrow.cell_far _ (by simp; omega) (Ne.symm hr2)]; go_simp
                  refine hK.out _ _ (⟨w3, w80, w81⟩) (fun hHeld3910 => ?_)
                  clear hK K
                  try simp only [Act.put, List.setIfInBounds_toArray, List.set_cons_zero, List.set_cons_succ]
                  refine wpAnyH_ready (rs := [11]) (by kernel_rfl) (by simp) ?_
                  refine AllReadyH.cons (o := { dst := some 95, op := Go.Op.nilCheck (Go.Operand.tmp 84), type := 0, pos := "law.go:87", after := #[{ on := 0, ground := Go.Ground.data }, { on := 0, ground := Go.Ground.phase }, { on := 1, ground := Go.Ground.phase }, { on := 2, ground := Go.Ground.phase }, { on := 3, ground := Go.Ground.phase }, { on := 4, ground := Go.Ground.phase }, { on := 5, ground := Go.Ground.phase }, { on := 6, ground := Go.Ground.phase }, { on := 7, ground := Go.Ground.phase }, { on := 8, ground := Go.Ground.phase }, { on := 9, ground := Go.Ground.phase }, { on := 10, ground := Go.Ground.phase }], guard := none }) rfl (fun K hK => ?_) ?_
                  · go_simp
                    refine hK.out _ _ (⟨w3, w80, w81⟩) (fun hHeld391011 => ?_)
                    clear hK K
                    try simp only [Act.put, List.setIfInBounds_toArray, List.set_cons_zero, List.set_cons_succ]
                    refine wpAnyH_ready (rs := [12]) (by kernel_rfl) (by simp) ?_
                    refine AllReadyH.cons (o := { dst := none, op := Go.Op.store 33 (Go.Operand.tmp 95) (Go.Operand.tmp 94), type := 0, pos := "law.go:87", after := #[{ on := 11, ground := Go.Ground.data }, { on := 10, ground := Go.Ground.data }, { on := 10, ground := Go.Ground.chain }, { on := 0, ground := Go.Ground.phase }, { on := 1, ground := Go.Ground.phase }, { on := 2, ground := Go.Ground.phase }, { on := 3, ground := Go.Ground.phase }, { on := 4, ground := Go.Ground.phase }, { on := 5, ground := Go.Ground.phase }, { on := 6, ground := Go.Ground.phase }, { on := 7, ground := Go.Ground.phase }, { on := 8, ground := Go.Ground.phase }, { on := 9, ground := Go.Ground.phase }, { on := 10, ground := Go.Ground.phase }], guard := none }) rfl (fun K hK => ?_) ?_
                    · go_simp
                      refine hK.out _ _ (⟨(World.cell?_setCell_far _ _ _ _ hn2).trans w3, (World.cell?_setCell_far _ _ _ _ hn8).trans w80, (World.cell?_setCell_far _ _ _ _ hn8).trans w81⟩) (fun hHeld39101112 => ?_)
                      clear hK K
                      try simp only [Act.put, List.setIfInBounds_toArray, List.set_cons_zero, List.set_cons_succ]
                      refine wpAnyH_done (by kernel_rfl) ?_ _
                      obtain ⟨hna, hka⟩ := notes_append (K := [0, 0, 0]) (k := 3) HO2.out HQ2.out HC2.out HCS2.out (Kept.refl _ X8) HSR2.out hown1 rfl hgrow hat
                      have HNA := Lib.hid (hna.fewer (fun s hs => by simp only [List.mem_cons] at hs ⊢; rcases hs with h | h | h | h <;> simp [h]) : Notes _ c (bi :: (W.heap.size + 1) :: W.heap.size :: S) _)
                      have HKA := Lib.hid (HK8.out.trans (hka.far (fun s hs => by simp only [List.mem_cons] at hs ⊢; rcases hs with h | h | h <;> simp [h])) : Kept (Far c ((W.heap.size + 1) :: W.heap.size :: S)) wr _)
                      have HBA := Lib.hid (hka.blk HI8.out (fun hx => hx.2 (by simp)))
                      have HB7A := Lib.hid (hka.blk H78.out (fun hx => hx.2 (by simp)))
                      clear hna hka hgrow hown1 hat wc wz w80 w81 w3
                      go_upto_region 22 with fail
                      refine wp_forget (fun X9 => Hid (Notes X9 c (bi :: (W.heap.size + 1) :: W.heap.size :: S) (N ++ P ++ ns1 ++ [0, 0, 0])) ∧ Hid (Kept (Far c ((W.heap.size + 1) :: W.heap.size :: S)) wr X9) ∧ Hid (Blk X9 bi 3 #[.int .i64 i]) ∧ Hid (Blk X9 (wr.heap.size + 1) 3 #[.int .i64 K])) ⟨HNA, HKA, HBA, HB7A⟩ ?_
                      clear HNA HKA HBA HB7A
                      rintro X9 ⟨HNA, HKA, HBA, HB7A⟩
                      have b9 : X9.cell? ⟨bi, 0, none⟩ = some (.int .i64 i) := HBA.out.cell 0
                      have z9 : X9.frozen? ⟨bi, 0, none⟩ = false := HBA.out.frozen 0
                      have k9 : X9.cell? ⟨wr.heap.size + 1, 0, none⟩ = some (.int .i64 K) := HB7A.out.cell 0
                      have l9 := HBA.out.lt
                      have l97 := HB7A.out.lt
                      have hbiW : bi ∉ S := fun h => by have := HS.out _ h; omega
                      have hbin : W.heap.size + 1 < bi := hx3
                      go_upto_region 23 with fail
                      refine wp_forget (fun X0 => Hid (Notes X0 c ((W.heap.size + 1) :: W.heap.size :: S) (N ++ P ++ (ns1 ++ [0, 0, 0]))) ∧ Hid (Kept (Far c ((W.heap.size + 1) :: W.heap.size :: S)) wr X0) ∧ Hid (Blk X0 bi 3 #[.int .i64 ((i : Int) + (K : Int))])) ⟨Lib.hid (by
                          rw [← List.append_assoc]
                          exact (HNA.out.setCell (by simp) _).fewer (fun s hs => List.mem_cons_of_mem _ hs)), Lib.hid (HKA.out.trans ((Kept.refl _ X9).setCell (.inr ⟨by show c ≤ bi; omega, by show bi ∉ (W.heap.size + 1) :: W.heap.size :: S; simp only [List.mem_cons, not_or]; exact ⟨by omega, by omega, hbiW⟩⟩) _)), Lib.hid (HBA.out.put 0 _)⟩ ?_
                      clear HNA HKA HBA HB7A b9 z9 k9 l9 l97
                      rintro X0 ⟨HNA, HKA, HBA⟩
                      have b9 : X0.cell? ⟨bi, 0, none⟩ = some (.int .i64 ((i : Int) + (K : Int))) := HBA.out.cell 0
                      have l9 := HBA.out.lt
                      go_wp2_with fail
                      go_roundw
                      case rel => exact ⟨i + K + 1, _, P ++ (ns1 ++ [0, 0, 0]), rfl, Lib.hid (pin_next (j := i + K + 1) HP.out hcl HNA.out HKA.out ⟨ms, by rw [HNS.out]; simp [num3], by have h1 := HT3.out; rw [HHK.out, List.drop_drop] at h1; rwa [show i + 1 + K = i + K + 1 by omega] at h1⟩ (by rw [HLn.out]; omega) (by have h2 := HNL.out; simp; omega))⟩
                      case measure => simp [intOf, g4]; omega
                    exact AllReadyH.nil
                  exact AllReadyH.nil
                exact AllReadyH.nil
              exact AllReadyH.nil
            refine AllReadyH.cons (o := { dst := some 93, op := Go.Op.buildSlice 33 3 #[(0, Go.Operand.tmp 88), (1, Go.Operand.tmp 90), (2, Go.Operand.tmp 92)], type := 33, pos := "law.go:87", after := #[{ on := 4, ground := Go.Ground.data }, { on := 6, ground := Go.Ground.data }, { on := 8, ground := Go.Ground.data }], guard := none }) rfl (fun K hK => ?_) ?_
            · go_simp
              refine hK.out _ _ (by refine ⟨?_, ?_, ?_⟩ <;> go_simp) (fun hHeld9 => ?_)
              clear hK K
              try simp only [Act.put, List.setIfInBounds_toArray, List.set_cons_zero, List.set_cons_succ]
              refine wpAnyH_ready (rs := [3]) (by kernel_rfl) (by simp) ?_
              refine AllReadyH.cons (o := { dst := some 87, op := Go.Op.load 33 (Go.Operand.tmp 86), type := 33, pos := "law.go:87", after := #[{ on := 2, ground := Go.Ground.data }], guard := none }) rfl (fun K hK => ?_) ?_
              · go_simp
                refine hK.out _ _ (by refine ⟨?_, ?_, ?_⟩ <;> go_simp) (fun hHeld93 => ?_)
                clear hK K
                try simp only [Act.put, List.setIfInBounds_toArray, List.set_cons_zero, List.set_cons_succ]
                refine wpAnyH_ready (rs := [10]) (by kernel_rfl) (by simp) ?_
                refine AllReadyH.cons (o := { dst := some 94, op := Go.Op.call { callee := Go.Callee.builtin Go.Builtin.append, args := #[Go.Operand.tmp 87, Go.Operand.tmp 93], argTypes := #[33, 33] }, type := 33, pos := "law.go:87", after := #[{ on := 3, ground := Go.Ground.data }, { on := 9, ground := Go.Ground.data }], guard := none }) rfl (fun K hK => ?_) ?_
                · refine step_append_lies _ (by rfl) _ _ _ (by rfl) (c + 1) 3 i0 _ 1 8 Try.underlying33 hi hz0 hz1 hz2 rfl (by omega) (.slice A2 q2 c2') q2 (iv (N ++ P ++ ns1)) (by rfl) ((HR2.out.alloc _).drew) ⟨X8.heap.size, 0, none⟩ 3 3 [.int .i64 0, .int .i64 0, .int .i64 0] (by rfl) (by rfl) (news_at (Blk.new X8 3 #[.int .i64 0, .int .i64 0, .int .i64 0])) (by simp [Value.oneCell']) (by omega) (by unfold maxLen; omega) (by omega) (by simp; omega) (X8.heap.size + 1) (by simp) ?_
                  intro gg cap1 w1 hown1 hgrow hat hlt1
                  have wc : w1.cell? ⟨c, 0, none⟩ = some (.slice A2 q2 c2') := by rw [hgrow.cell_far _ (by simp; omega) (Ne.symm hr0)]; go_simp
                  have wz : w1.frozen? ⟨c, 0, none⟩ = false := by rw [hgrow.frozen_far _ (by simp; omega) (Ne.symm hr0)]; go_simp
                  have w3 : w1.cell? ⟨W.heap.size + 1, 0, none⟩ = some (.pointer (some ⟨c, 0, none⟩)) := by rw [hgrow.cell_far _ (by simp; omega) (Ne.symm hr1)]; go_simp
                  have w80 : w1.cell? ⟨b8, 0, none⟩ = some (.int .i64 0) := by rw [hgrow.cell_far _ (by simp; omega) (Ne.symm hr2)]; go_simp
                  have w81 : w1.cell? ⟨b8, 1, none⟩ = some (.int .i64 0) := by rw [hgrow.cell_far _ (by simp; omega) (Ne.symm hr2)]; go_simp
                  refine hK.out _ _ (⟨w3, w80, w81⟩) (fun hHeld9310 => ?_)
                  clear hK K
                  try simp only [Act.put, List.setIfInBounds_toArray, List.set_cons_zero, List.set_cons_succ]
                  refine wpAnyH_ready (rs := [11]) (by kernel_rfl) (by simp) ?_
                  refine AllReadyH.cons (o := { dst := some 95, op := Go.Op.nilCheck (Go.Operand.tmp 84), type := 0, pos := "law.go:87", after := #[{ on := 0, ground := Go.Ground.data }, { on := 0, ground := Go.Ground.phase }, { on := 1, ground := Go.Ground.phase }, { on := 2, ground := Go.Ground.phase }, { on := 3, ground := Go.Ground.phase }, { on := 4, ground := Go.Ground.phase }, { on := 5, ground := Go.Ground.phase }, { on := 6, ground := Go.Ground.phase }, { on := 7, ground := Go.Ground.phase }, { on := 8, ground := Go.Ground.phase }, { on := 9, ground := Go.Ground.phase }, { on := 10, ground := Go.Ground.phase }], guard := none }) rfl (fun K hK => ?_) ?_
                  · go_simp
                    refine hK.out _ _ (⟨w3, w80, w81⟩) (fun hHeld931011 => ?_)
                    clear hK K
                    try simp only [Act.put, List.setIfInBounds_toArray, List.set_cons_zero, List.set_cons_succ]
                    refine wpAnyH_ready (rs := [12]) (by kernel_rfl) (by simp) ?_
                    refine AllReadyH.cons (o := { dst := none, op := Go.Op.store 33 (Go.Operand.tmp 95) (Go.Operand.tmp 94), type := 0, pos := "law.go:87", after := #[{ on := 11, ground := Go.Ground.data }, { on := 10, ground := Go.Ground.data }, { on := 10, ground := Go.Ground.chain }, { on := 0, ground := Go.Ground.phase }, { on := 1, ground := Go.Ground.phase }, { on := 2, ground := Go.Ground.phase }, { on := 3, ground := Go.Ground.phase }, { on := 4, ground := Go.Ground.phase }, { on := 5, ground := Go.Ground.phase }, { on := 6, ground := Go.Ground.phase }, { on := 7, ground := Go.Ground.phase }, { on := 8, ground := Go.Ground.phase }, { on := 9, ground := Go.Ground.phase }, { on := 10, ground := Go.Ground.phase }], guard := none }) rfl (fun K hK => ?_) ?_
                    · go_simp
                      refine hK.out _ _ (⟨(World.cell?_setCell_far _ _ _ _ hn2).trans w3, (World.cell?_setCell_far _ _ _ _ hn8).trans w80, (World.cell?_setCell_far _ _ _ _ hn8).trans w81⟩) (fun hHeld93101112 => ?_)
                      clear hK K
                      try simp only [Act.put, List.setIfInBounds_toArray, List.set_cons_zero, List.set_cons_succ]
                      refine wpAnyH_done (by kernel_rfl) ?_ _
                      obtain ⟨hna, hka⟩ := notes_append (K := [0, 0, 0]) (k := 3) HO2.out HQ2.out HC2.out HCS2.out (Kept.refl _ X8) HSR2.out hown1 rfl hgrow hat
                      have HNA := Lib.hid (hna.fewer (fun s hs => by simp only [List.mem_cons] at hs ⊢; rcases hs with h | h | h | h <;> simp [h]) : Notes _ c (bi :: (W.heap.size + 1) :: W.heap.size :: S) _)
                      have HKA := Lib.hid (HK8.out.trans (hka.far (fun s hs => by simp only [List.mem_cons] at hs ⊢; rcases hs with h | h | h <;> simp [h])) : Kept (Far c ((W.heap.size + 1) :: W.heap.size :: S)) wr _)
                      have HBA := Lib.hid (hka.blk HI8.out (fun hx => hx.2 (by simp)))
                      have HB7A := Lib.hid (hka.blk H78.out (fun hx => hx.2 (by simp)))
                      clear hna hka hgrow hown1 hat wc wz w80 w81 w3
                      go_upto_region 22 with fail
                      refine wp_forget (fun X9 => Hid (Notes X9 c (bi :: (W.heap.size + 1) :: W.heap.size :: S) (N ++ P ++ ns1 ++ [0, 0, 0])) ∧ Hid (Kept (Far c ((W.heap.size + 1) :: W.heap.size :: S)) wr X9) ∧ Hid (Blk X9 bi 3 #[.int .i64 i]) ∧ Hid (Blk X9 (wr.heap.size + 1) 3 #[.int .i64 K])) ⟨HNA, HKA, HBA, HB7A⟩ ?_
                      clear HNA HKA HBA HB7A
                      rintro X9 ⟨HNA, HKA, HBA, HB7A⟩
                      have b9 : X9.cell? ⟨bi, 0, none⟩ = some (.int .i64 i) := HBA.out.cell 0
                      have z9 : X9.frozen? ⟨bi, 0, none⟩ = false := HBA.out.frozen 0
                      have k9 : X9.cell? ⟨wr.heap.size + 1, 0, none⟩ = some (.int .i64 K) := HB7A.out.cell 0
                      have l9 := HBA.out.lt
                      have l97 := HB7A.out.lt
                      have hbiW : bi ∉ S := fun h => by have := HS.out _ h; omega
                      have hbin : W.heap.size + 1 < bi := hx3
                      go_upto_region 23 with fail
                      refine wp_forget (fun X0 => Hid (Notes X0 c ((W.heap.size + 1) :: W.heap.size :: S) (N ++ P ++ (ns1 ++ [0, 0, 0]))) ∧ Hid (Kept (Far c ((W.heap.size + 1) :: W.heap.size :: S)) wr X0) ∧ Hid (Blk X0 bi 3 #[.int .i64 ((i : Int) + (K : Int))])) ⟨Lib.hid (by
                          rw [← List.append_assoc]
                          exact (HNA.out.setCell (by simp) _).fewer (fun s hs => List.mem_cons_of_mem _ hs)), Lib.hid (HKA.out.trans ((Kept.refl _ X9).setCell (.inr ⟨by show c ≤ bi; omega, by show bi ∉ (W.heap.size + 1) :: W.heap.size :: S; simp only [List.mem_cons, not_or]; exact ⟨by omega, by omega, hbiW⟩⟩) _)), Lib.hid (HBA.out.put 0 _)⟩ ?_
                      clear HNA HKA HBA HB7A b9 z9 k9 l9 l97
                      rintro X0 ⟨HNA, HKA, HBA⟩
                      have b9 : X0.cell? ⟨bi, 0, none⟩ = some (.int .i64 ((i : Int) + (K : Int))) := HBA.out.cell 0
                      have l9 := HBA.out.lt
                      go_wp2_with fail
                      go_roundw
                      case rel => exact ⟨i + K + 1, _, P ++ (ns1 ++ [0, 0, 0]), rfl, Lib.hid (pin_next (j := i + K + 1) HP.out hcl HNA.out HKA.out ⟨ms, by rw [HNS.out]; simp [num3], by have h1 := HT3.out; rw [HHK.out, List.drop_drop] at h1; rwa [show i + 1 + K = i + K + 1 by omega] at h1⟩ (by rw [HLn.out]; omega) (by have h2 := HNL.out; simp; omega))⟩
                      case measure => simp [intOf, g4]; omega
                    exact AllReadyH.nil
                  exact AllReadyH.nil
                exact AllReadyH.nil
              exact AllReadyH.nil
            exact AllReadyH.nil
          | fault c5 a5 =>
            obtain rfl := hce
            have hs2' := hs2
            go_upto_region 18 with fail
            refine wp_forget (fun X8 => Hid (Notes X8 c ((wr.heap.size + 1) :: bi :: (W.heap.size + 1) :: W.heap.size :: S) (N ++ P ++ ns1)) ∧ Hid (Kept (Far c ((W.heap.size + 1) :: W.heap.size :: S)) wr X8) ∧ Hid (Blk X8 (W.heap.size + 1) 41 #[.pointer (some ⟨c, 0, none⟩)]) ∧ Hid (Blk X8 bi 3 #[.int .i64 i]) ∧ Hid (Blk X8 (wr.heap.size + 1) 3 #[.int .i64 K]) ∧ Hid (Blk X8 w2.heap.size 23 #[.int .i64 c5, .int .i64 a5])) ⟨Lib.hid ((good_notes c (N ++ P ++ ns1)) _ _ w2 _ hpp2.1 ((Kept.refl _ w2).alloc _) (fun s hs => .inl (by simp only [List.mem_cons] at hs; rcases hs with h | h | h | h | h <;> simp [h]))), Lib.hid (hwr3.alloc _), Lib.hid (hSe2.2.2.2.1.alloc _), Lib.hid (hSe2.2.1.1.alloc _), Lib.hid (hSe2.2.2.1.1.alloc _), Lib.hid (Blk.new _ _ _)⟩ ?_
            rintro X8 ⟨HN8, HK8, H38, HI8, H78, H88⟩
            obtain ⟨r2, hb2, hc2, ho2⟩ := id HN8.out
            obtain ⟨A2, c2', rfl⟩ := ho2.form
            obtain ⟨q2, hq2⟩ : ∃ q2, (N ++ P ++ ns1).length = q2 := ⟨_, rfl⟩
            have hq2l : q2 ≤ 10000 := by
              have h1 := congrArg List.length HNS.out
              simp only [List.length_append, List.length_cons, List.length_nil] at h1
              rw [← hq2, List.length_append, List.length_append]
              omega
            rw [hq2] at hb2 ho2
            have hrow2 := ho2.row
            rw [hq2] at hrow2
            have HQ2 := Lib.hid hq2
            have HR2 := Lib.hid hrow2
            have HO2 := Lib.hid ho2
            have HC2 := Lib.hid hb2
            have HCS2 := Lib.hid hc2
            have hr0 : (Value.slice A2 q2 c2').ownBlock ≠ some c := fun e => by have := (hrow2.lt _ e).1; omega
            have hr1 : (Value.slice A2 q2 c2').ownBlock ≠ some (W.heap.size + 1) := fun e => ho2.far _ e (by simp)
            have hr2 : (Value.slice A2 q2 c2').ownBlock ≠ some w2.heap.size := fun e => by
              have h1 := own_type2 hrow2 H88.out e.symm
              exact absurd h1 (by decide)
            have hl8 := H88.out.lt
            have hl38 := H38.out.lt
            have hlc8 := hb2.lt
            have hli8 := HI8.out.lt
            have hl78 := H78.out.lt
            have hn8 : c ≠ w2.heap.size := by omega
            have HSR2 := Lib.hid (fun s hs => by
              simp only [List.mem_cons] at hs
              rcases hs with h | h | h | h | h
              · omega
              · omega
              · omega
              · omega
              · have := HS.out s h; omega : ∀ s ∈ (wr.heap.size + 1) :: bi :: (W.heap.size + 1) :: W.heap.size :: S, s < X8.heap.size)
            have x3 : X8.cell? ⟨W.heap.size + 1, 0, none⟩ = some (.pointer (some ⟨c, 0, none⟩)) := H38.out.cell 0
            have xc : X8.cell? ⟨c, 0, none⟩ = some (.slice A2 q2 c2') := hb2.cell 0
            have xz : X8.frozen? ⟨c, 0, none⟩ = false := hb2.frozen 0
            have x80 : X8.cell? ⟨w2.heap.size, 0, none⟩ = some (.int .i64 c5) := H88.out.cell 0
            have x81 : X8.cell? ⟨w2.heap.size, 1, none⟩ = some (.int .i64 a5) := H88.out.cell 1
            clear hpp2 hSe2 hwr2 hwr3 hkc hb2 hc2 ho2 hrow2 hq2
            go_upto_region 21 with fail
            generalize w2.heap.size = b8 at *
            refine wp_region_held_drew (S := fun w' => w'.cell? ⟨W.heap.size + 1, 0, none⟩ = some (.pointer (some ⟨c, 0, none⟩)) ∧ w'.cell? ⟨b8, 0, none⟩ = some (.int .i64 c5) ∧ w'.cell? ⟨b8, 1, none⟩ = some (.int .i64 a5)) (by kernel_rfl) (by refine ⟨?_, ?_, ?_⟩ <;> go_simp) (fun hHeld => ?_)
            refine wpAnyH_take (i := 0) (oi := { dst := some 84, op := Go.Op.load 41 (Go.Operand.tmp 3), type := 41, pos := "law.go:87", after := #[], guard := none }) (v := ?_) rfl (by kernel_rfl) (by kernel_rfl) (by kernel_rfl) (fun _ _ _ h => h) (Or.inl ⟨by rfl, ?_⟩) hHeld ?_
            rotate_left
            · intro w hSw; (try dsimp only at hSw); go_simp <;> with_reducible rfl
            try simp only [Act.put, List.setIfInBounds_toArray, List.set_cons_zero, List.set_cons_succ]
            refine wpAnyH_take (i := 1) (oi := { dst := some 85, op := Go.Op.load 41 (Go.Operand.tmp 3), type := 41, pos := "law.go:87", after := #[], guard := none }) (v := ?_) rfl (by kernel_rfl) (by kernel_rfl) (by kernel_rfl) (fun _ _ _ h => h) (Or.inl ⟨by rfl, ?_⟩) hHeld ?_
            rotate_left
            · intro w hSw; (try dsimp only at hSw); go_simp <;> with_reducible rfl
            try simp only [Act.put, List.setIfInBounds_toArray, List.set_cons_zero, List.set_cons_succ]
            refine wpAnyH_take (i := 2) (oi := { dst := some 86, op := Go.Op.nilCheck (Go.Operand.tmp 85), type := 0, pos := "law.go:87", after := #[{ on := 1, ground := Go.Ground.data }], guard := none }) (v := ?_) rfl (by kernel_rfl) (by kernel_rfl) (by kernel_rfl) (fun _ _ _ h => h) (Or.inl ⟨by rfl, ?_⟩) hHeld ?_
            rotate_left
            · intro w hSw; (try dsimp only at hSw); go_simp <;> with_reducible rfl
            try simp only [Act.put, List.setIfInBounds_toArray, List.set_cons_zero, List.set_cons_succ]
            refine wpAnyH_take (i := 4) (oi := { dst := some 88, op := Go.Op.move (Go.Operand.tmp 10), type := 3, pos := "law.go:87", after := #[], guard := none }) (v := ?_) rfl (by kernel_rfl) (by kernel_rfl) (by kernel_rfl) (fun _ _ _ h => h) (Or.inl ⟨by rfl, ?_⟩) hHeld ?_
            rotate_left
            · intro w hSw; (try dsimp only at hSw); go_simp <;> with_reducible rfl
            try simp only [Act.put, List.setIfInBounds_toArray, List.set_cons_zero, List.set_cons_succ]
            refine wpAnyH_take (i := 5) (oi := { dst := some 89, op := Go.Op.fieldAddr 23 (Go.Operand.tmp 8) 0, type := 0, pos := "law.go:87", after := #[], guard := none }) (v := ?_) rfl (by kernel_rfl) (by kernel_rfl) (by kernel_rfl) (fun _ _ _ h => h) (Or.inl ⟨by rfl, ?_⟩) hHeld ?_
            rotate_left
            · intro w hSw; (try dsimp only at hSw); go_simp <;> with_reducible rfl
            try simp only [Act.put, List.setIfInBounds_toArray, List.set_cons_zero, List.set_cons_succ]
            refine wpAnyH_take (i := 6) (oi := { dst := some 90, op := Go.Op.load 3 (Go.Operand.tmp 89), type := 3, pos := "law.go:87", after := #[{ on := 5, ground := Go.Ground.data }], guard := none }) (v := ?_) rfl (by kernel_rfl) (by kernel_rfl) (by kernel_rfl) (fun _ _ _ h => h) (Or.inl ⟨by rfl, ?_⟩) hHeld ?_
            rotate_left
            · intro w hSw; (try dsimp only at hSw); go_simp <;> with_reducible rfl
            try simp only [Act.put, List.setIfInBounds_toArray, List.set_cons_zero, List.set_cons_succ]
            refine wpAnyH_take (i := 7) (oi := { dst := some 91, op := Go.Op.fieldAddr 23 (Go.Operand.tmp 8) 1, type := 0, pos := "law.go:87", after := #[], guard := none }) (v := ?_) rfl (by kernel_rfl) (by kernel_rfl) (by kernel_rfl) (fun _ _ _ h => h) (Or.inl ⟨by rfl, ?_⟩) hHeld ?_
            rotate_left
            · intro w hSw; (try dsimp only at hSw); go_simp <;> with_reducible rfl
            try simp only [Act.put, List.setIfInBounds_toArray, List.set_cons_zero, List.set_cons_succ]
            refine wpAnyH_take (i := 8) (oi := { dst := some 92, op := Go.Op.load 3 (Go.Operand.tmp 91), type := 3, pos := "law.go:87", after := #[{ on := 7, ground := Go.Ground.data }], guard := none }) (v := ?_) rfl (by kernel_rfl) (by kernel_rfl) (by kernel_rfl) (fun _ _ _ h => h) (Or.inl ⟨by rfl, ?_⟩) hHeld ?_
            rotate_left
            · intro w hSw; (try dsimp only at hSw); go_simp <;> with_reducible rfl
            try simp only [Act.put, List.setIfInBounds_toArray, List.set_cons_zero, List.set_cons_succ]
            refine wpAnyH_ready (rs := [3, 9]) (by kernel_rfl) (by simp) ?_
            refine AllReadyH.cons (o := { dst := some 87, op := Go.Op.load 33 (Go.Operand.tmp 86), type := 33, pos := "law.go:87", after := #[{ on := 2, ground := Go.Ground.data }], guard := none }) rfl (fun K hK => ?_) ?_
            · go_simp
              refine hK.out _ _ (by refine ⟨?_, ?_, ?_⟩ <;> go_simp) (fun hHeld3 => ?_)
              clear hK K
              try simp only [Act.put, List.setIfInBounds_toArray, List.set_cons_zero, List.set_cons_succ]
              refine wpAnyH_ready (rs := [9]) (by kernel_rfl) (by simp) ?_
              refine AllReadyH.cons (o := { dst := some 93, op := Go.Op.buildSlice 33 3 #[(0, Go.Operand.tmp 88), (1, Go.Operand.tmp 90), (2, Go.Operand.tmp 92)], type := 33, pos := "law.go:87", after := #[{ on := 4, ground := Go.Ground.data }, { on := 6, ground := Go.Ground.data }, { on := 8, ground := Go.Ground.data }], guard := none }) rfl (fun K hK => ?_) ?_
              · go_simp
                refine hK.out _ _ (by refine ⟨?_, ?_, ?_⟩ <;> go_simp) (fun hHeld39 => ?_)
                clear hK K
                try simp only [Act.put, List.setIfInBounds_toArray, List.set_cons_zero, List.set_cons_succ]
                refine wpAnyH_ready (rs := [10]) (by kernel_rfl) (by simp) ?_
                refine AllReadyH.cons (o := { dst := some 94, op := Go.Op.call { callee := Go.Callee.builtin Go.Builtin.append, args := #[Go.Operand.tmp 87, Go.Operand.tmp 93], argTypes := #[33, 33] }, type := 33, pos := "law.go:87", after := #[{ on := 3, ground := Go.Ground.data }, { on := 9, ground := Go.Ground.data }], guard := none }) rfl (fun K hK => ?_) ?_
                · refine step_append_lies _ (by rfl) _ _ _ (by rfl) (c + 1) 3 i0 _ 1 8 Try.underlying33 hi hz0 hz1 hz2 rfl (by omega) (.slice A2 q2 c2') q2 (iv (N ++ P ++ ns1)) (by rfl) ((HR2.out.alloc _).drew) ⟨X8.heap.size, 0, none⟩ 3 3 [.int .i64 1, .int .i64 c5, .int .i64 a5] (by rfl) (by rfl) (news_at (Blk.new X8 3 #[.int .i64 1, .int .i64 c5, .int .i64 a5])) (by simp [Value.oneCell']) (by omega) (by unfold maxLen; omega) (by omega) (by simp; omega) (X8.heap.size + 1) (by simp) ?_
                  intro gg cap1 w1 hown1 hgrow hat hlt1
                  have wc : w1.cell? ⟨c, 0, none⟩ = some (.slice A2 q2 c2') := by rw [hgrow.cell_far _ (by simp; omega) (Ne.symm hr0)]; go_simp
                  have wz : w1.frozen? ⟨c, 0, none⟩ = false := by rw [hgrow.frozen_far _ (by simp; omega) (Ne.symm hr0)]; go_simp
                  have w3 : w1.cell? ⟨W.heap.size + 1, 0, none⟩ = some (.pointer (some ⟨c, 0, none⟩)) := by rw [hgrow.cell_far _ (by simp; omega) (Ne.symm hr1)]; go_simp
                  have w80 : w1.cell? ⟨b8, 0, none⟩ = some (.int .i64 c5) := by rw [hgrow.cell_far _ (by simp; omega) (Ne.symm hr2)]; go_simp
                  have w81 : w1.cell? ⟨b8, 1, none⟩ = some (.int .i64 a5) := by rw [hgrow.cell_far _ (by simp; omega) (Ne.symm hr2)]; go_simp
                  refine hK.out _ _ (⟨w3, w80, w81⟩) (fun hHeld3910 => ?_)
                  clear hK K
                  try simp only [Act.put, List.setIfInBounds_toArray, List.set_cons_zero, List.set_cons_succ]
                  refine wpAnyH_ready (rs := [11]) (by kernel_rfl) (by simp) ?_
                  refine AllReadyH.cons (o := { dst := some 95, op := Go.Op.nilCheck (Go.Operand.tmp 84), type := 0, pos := "law.go:87", after := #[{ on := 0, ground := Go.Ground.data }, { on := 0, ground := Go.Ground.phase }, { on := 1, ground := Go.Ground.phase }, { on := 2, ground := Go.Ground.phase }, { on := 3, ground := Go.Ground.phase }, { on := 4, ground := Go.Ground.phase }, { on := 5, ground := Go.Ground.phase }, { on := 6, ground := Go.Ground.phase }, { on := 7, ground := Go.Ground.phase }, { on := 8, ground := Go.Ground.phase }, { on := 9, ground := Go.Ground.phase }, { on := 10, ground := Go.Ground.phase }], guard := none }) rfl (fun K hK => ?_) ?_
                  · go_simp
                    refine hK.out _ _ (⟨w3, w80, w81⟩) (fun hHeld391011 => ?_)
                    clear hK K
                    try simp only [Act.put, List.setIfInBounds_toArray, List.set_cons_zero, List.set_cons_succ]
                    refine wpAnyH_ready (rs := [12]) (by kernel_rfl) (by simp) ?_
                    refine AllReadyH.cons (o := { dst := none, op := Go.Op.store 33 (Go.Operand.tmp 95) (Go.Operand.tmp 94), type := 0, pos := "law.go:87", after := #[{ on := 11, ground := Go.Ground.data }, { on := 10, ground := Go.Ground.data }, { on := 10, ground := Go.Ground.chain }, { on := 0, ground := Go.Ground.phase }, { on := 1, ground := Go.Ground.phase }, { on := 2, ground := Go.Ground.phase }, { on := 3, ground := Go.Ground.phase }, { on := 4, ground := Go.Ground.phase }, { on := 5, ground := Go.Ground.phase }, { on := 6, ground := Go.Ground.phase }, { on := 7, ground := Go.Ground.phase }, { on := 8, ground := Go.Ground.phase }, { on := 9, ground := Go.Ground.phase }, { on := 10, ground := Go.Ground.phase }], guard := none }) rfl (fun K hK => ?_) ?_
                    · go_simp
                      refine hK.out _ _ (⟨(World.cell?_setCell_far _ _ _ _ hn2).trans w3, (World.cell?_setCell_far _ _ _ _ hn8).trans w80, (World.cell?_setCell_far _ _ _ _ hn8).trans w81⟩) (fun hHeld39101112 => ?_)
                      clear hK K
                      try simp only [Act.put, List.setIfInBounds_toArray, List.set_cons_zero, List.set_cons_succ]
                      refine wpAnyH_done (by kernel_rfl) ?_ _
                      obtain ⟨hna, hka⟩ := notes_append (K := [1, c5, a5]) (k := 3) HO2.out HQ2.out HC2.out HCS2.out (Kept.refl _ X8) HSR2.out hown1 rfl hgrow hat
                      have HNA := Lib.hid (hna.fewer (fun s hs => by simp only [List.mem_cons] at hs ⊢; rcases hs with h | h | h | h <;> simp [h]) : Notes _ c (bi :: (W.heap.size + 1) :: W.heap.size :: S) _)
                      have HKA := Lib.hid (HK8.out.trans (hka.far (fun s hs => by simp only [List.mem_cons] at hs ⊢; rcases hs with h | h | h <;> simp [h])) : Kept (Far c ((W.heap.size + 1) :: W.heap.size :: S)) wr _)
                      have HBA := Lib.hid (hka.blk HI8.out (fun hx => hx.2 (by simp)))
                      have HB7A := Lib.hid (hka.blk H78.out (fun hx => hx.2 (by simp)))
                      clear hna hka hgrow hown1 hat wc wz w80 w81 w3
                      go_upto_region 22 with fail
                      refine wp_forget (fun X9 => Hid (Notes X9 c (bi :: (W.heap.size + 1) :: W.heap.size :: S) (N ++ P ++ ns1 ++ [1, c5, a5])) ∧ Hid (Kept (Far c ((W.heap.size + 1) :: W.heap.size :: S)) wr X9) ∧ Hid (Blk X9 bi 3 #[.int .i64 i]) ∧ Hid (Blk X9 (wr.heap.size + 1) 3 #[.int .i64 K])) ⟨HNA, HKA, HBA, HB7A⟩ ?_
                      clear HNA HKA HBA HB7A
                      rintro X9 ⟨HNA, HKA, HBA, HB7A⟩
                      have b9 : X9.cell? ⟨bi, 0, none⟩ = some (.int .i64 i) := HBA.out.cell 0
                      have z9 : X9.frozen? ⟨bi, 0, none⟩ = false := HBA.out.frozen 0
                      have k9 : X9.cell? ⟨wr.heap.size + 1, 0, none⟩ = some (.int .i64 K) := HB7A.out.cell 0
                      have l9 := HBA.out.lt
                      have l97 := HB7A.out.lt
                      have hbiW : bi ∉ S := fun h => by have := HS.out _ h; omega
                      have hbin : W.heap.size + 1 < bi := hx3
                      go_upto_region 23 with fail
                      refine wp_forget (fun X0 => Hid (Notes X0 c ((W.heap.size + 1) :: W.heap.size :: S) (N ++ P ++ (ns1 ++ [1, c5, a5]))) ∧ Hid (Kept (Far c ((W.heap.size + 1) :: W.heap.size :: S)) wr X0) ∧ Hid (Blk X0 bi 3 #[.int .i64 ((i : Int) + (K : Int))])) ⟨Lib.hid (by
                          rw [← List.append_assoc]
                          exact (HNA.out.setCell (by simp) _).fewer (fun s hs => List.mem_cons_of_mem _ hs)), Lib.hid (HKA.out.trans ((Kept.refl _ X9).setCell (.inr ⟨by show c ≤ bi; omega, by show bi ∉ (W.heap.size + 1) :: W.heap.size :: S; simp only [List.mem_cons, not_or]; exact ⟨by omega, by omega, hbiW⟩⟩) _)), Lib.hid (HBA.out.put 0 _)⟩ ?_
                      clear HNA HKA HBA HB7A b9 z9 k9 l9 l97
                      rintro X0 ⟨HNA, HKA, HBA⟩
                      have b9 : X0.cell? ⟨bi, 0, none⟩ = some (.int .i64 ((i : Int) + (K : Int))) := HBA.out.cell 0
                      have l9 := HBA.out.lt
                      go_wp2_with fail
                      go_roundw
                      case rel => exact ⟨i + K + 1, _, P ++ (ns1 ++ [1, c5, a5]), rfl, Lib.hid (pin_next (j := i + K + 1) HP.out hcl HNA.out HKA.out ⟨ms, by rw [HNS.out]; simp [num3], by have h1 := HT3.out; rw [HHK.out, List.drop_drop] at h1; rwa [show i + 1 + K = i + K + 1 by omega] at h1⟩ (by rw [HLn.out]; omega) (by have h2 := HNL.out; simp; omega))⟩
                      case measure => simp [intOf, g4]; omega
                    exact AllReadyH.nil
                  exact AllReadyH.nil
                exact AllReadyH.nil
              exact AllReadyH.nil
            refine AllReadyH.cons (o := { dst := some 93, op := Go.Op.buildSlice 33 3 #[(0, Go.Operand.tmp 88), (1, Go.Operand.tmp 90), (2, Go.Operand.tmp 92)], type := 33, pos := "law.go:87", after := #[{ on := 4, ground := Go.Ground.data }, { on := 6, ground := Go.Ground.data }, { on := 8, ground := Go.Ground.data }], guard := none }) rfl (fun K hK => ?_) ?_
            · go_simp
              refine hK.out _ _ (by refine ⟨?_, ?_, ?_⟩ <;> go_simp) (fun hHeld9 => ?_)
              clear hK K
              try simp only [Act.put, List.setIfInBounds_toArray, List.set_cons_zero, List.set_cons_succ]
              refine wpAnyH_ready (rs := [3]) (by kernel_rfl) (by simp) ?_
              refine AllReadyH.cons (o := { dst := some 87, op := Go.Op.load 33 (Go.Operand.tmp 86), type := 33, pos := "law.go:87", after := #[{ on := 2, ground := Go.Ground.data }], guard := none }) rfl (fun K hK => ?_) ?_
              · go_simp
                refine hK.out _ _ (by refine ⟨?_, ?_, ?_⟩ <;> go_simp) (fun hHeld93 => ?_)
                clear hK K
                try simp only [Act.put, List.setIfInBounds_toArray, List.set_cons_zero, List.set_cons_succ]
                refine wpAnyH_ready (rs := [10]) (by kernel_rfl) (by simp) ?_
                refine AllReadyH.cons (o := { dst := some 94, op := Go.Op.call { callee := Go.Callee.builtin Go.Builtin.append, args := #[Go.Operand.tmp 87, Go.Operand.tmp 93], argTypes := #[33, 33] }, type := 33, pos := "law.go:87", after := #[{ on := 3, ground := Go.Ground.data }, { on := 9, ground := Go.Ground.data }], guard := none }) rfl (fun K hK => ?_) ?_
                · refine step_append_lies _ (by rfl) _ _ _ (by rfl) (c + 1) 3 i0 _ 1 8 Try.underlying33 hi hz0 hz1 hz2 rfl (by omega) (.slice A2 q2 c2') q2 (iv (N ++ P ++ ns1)) (by rfl) ((HR2.out.alloc _).drew) ⟨X8.heap.size, 0, none⟩ 3 3 [.int .i64 1, .int .i64 c5, .int .i64 a5] (by rfl) (by rfl) (news_at (Blk.new X8 3 #[.int .i64 1, .int .i64 c5, .int .i64 a5])) (by simp [Value.oneCell']) (by omega) (by unfold maxLen; omega) (by omega) (by simp; omega) (X8.heap.size + 1) (by simp) ?_
                  intro gg cap1 w1 hown1 hgrow hat hlt1
                  have wc : w1.cell? ⟨c, 0, none⟩ = some (.slice A2 q2 c2') := by rw [hgrow.cell_far _ (by simp; omega) (Ne.symm hr0)]; go_simp
                  have wz : w1.frozen? ⟨c, 0, none⟩ = false := by rw [hgrow.frozen_far _ (by simp; omega) (Ne.symm hr0)]; go_simp
                  have w3 : w1.cell? ⟨W.heap.size + 1, 0, none⟩ = some (.pointer (some ⟨c, 0, none⟩)) := by rw [hgrow.cell_far _ (by simp; omega) (Ne.symm hr1)]; go_simp
                  have w80 : w1.cell? ⟨b8, 0, none⟩ = some (.int .i64 c5) := by rw [hgrow.cell_far _ (by simp; omega) (Ne.symm hr2)]; go_simp
                  have w81 : w1.cell? ⟨b8, 1, none⟩ = some (.int .i64 a5) := by rw [hgrow.cell_far _ (by simp; omega) (Ne.symm hr2)]; go_simp
                  refine hK.out _ _ (⟨w3, w80, w81⟩) (fun hHeld9310 => ?_)
                  clear hK K
                  try simp only [Act.put, List.setIfInBounds_toArray, List.set_cons_zero, List.set_cons_succ]
                  refine wpAnyH_ready (rs := [11]) (by kernel_rfl) (by simp) ?_
                  refine AllReadyH.cons (o := { dst := some 95, op := Go.Op.nilCheck (Go.Operand.tmp 84), type := 0, pos := "law.go:87", after := #[{ on := 0, ground := Go.Ground.data }, { on := 0, ground := Go.Ground.phase }, { on := 1, ground := Go.Ground.phase }, { on := 2, ground := Go.Ground.phase }, { on := 3, ground := Go.Ground.phase }, { on := 4, ground := Go.Ground.phase }, { on := 5, ground := Go.Ground.phase }, { on := 6, ground := Go.Ground.phase }, { on := 7, ground := Go.Ground.phase }, { on := 8, ground := Go.Ground.phase }, { on := 9, ground := Go.Ground.phase }, { on := 10, ground := Go.Ground.phase }], guard := none }) rfl (fun K hK => ?_) ?_
                  · go_simp
                    refine hK.out _ _ (⟨w3, w80, w81⟩) (fun hHeld931011 => ?_)
                    clear hK K
                    try simp only [Act.put, List.setIfInBounds_toArray, List.set_cons_zero, List.set_cons_succ]
                    refine wpAnyH_ready (rs := [12]) (by kernel_rfl) (by simp) ?_
                    refine AllReadyH.cons (o := { dst := none, op := Go.Op.store 33 (Go.Operand.tmp 95) (Go.Operand.tmp 94), type := 0, pos := "law.go:87", after := #[{ on := 11, ground := Go.Ground.data }, { on := 10, ground := Go.Ground.data }, { on := 10, ground := Go.Ground.chain }, { on := 0, ground := Go.Ground.phase }, { on := 1, ground := Go.Ground.phase }, { on := 2, ground := Go.Ground.phase }, { on := 3, ground := Go.Ground.phase }, { on := 4, ground := Go.Ground.phase }, { on := 5, ground := Go.Ground.phase }, { on := 6, ground := Go.Ground.phase }, { on := 7, ground := Go.Ground.phase }, { on := 8, ground := Go.Ground.phase }, { on := 9, ground := Go.Ground.phase }, { on := 10, ground := Go.Ground.phase }], guard := none }) rfl (fun K hK => ?_) ?_
                    · go_simp
                      refine hK.out _ _ (⟨(World.cell?_setCell_far _ _ _ _ hn2).trans w3, (World.cell?_setCell_far _ _ _ _ hn8).trans w80, (World.cell?_setCell_far _ _ _ _ hn8).trans w81⟩) (fun hHeld93101112 => ?_)
                      clear hK K
                      try simp only [Act.put, List.setIfInBounds_toArray, List.set_cons_zero, List.set_cons_succ]
                      refine wpAnyH_done (by kernel_rfl) ?_ _
                      obtain ⟨hna, hka⟩ := notes_append (K := [1, c5, a5]) (k := 3) HO2.out HQ2.out HC2.out HCS2.out (Kept.refl _ X8) HSR2.out hown1 rfl hgrow hat
                      have HNA := Lib.hid (hna.fewer (fun s hs => by simp only [List.mem_cons] at hs ⊢; rcases hs with h | h | h | h <;> simp [h]) : Notes _ c (bi :: (W.heap.size + 1) :: W.heap.size :: S) _)
                      have HKA := Lib.hid (HK8.out.trans (hka.far (fun s hs => by simp only [List.mem_cons] at hs ⊢; rcases hs with h | h | h <;> simp [h])) : Kept (Far c ((W.heap.size + 1) :: W.heap.size :: S)) wr _)
                      have HBA := Lib.hid (hka.blk HI8.out (fun hx => hx.2 (by simp)))
                      have HB7A := Lib.hid (hka.blk H78.out (fun hx => hx.2 (by simp)))
                      clear hna hka hgrow hown1 hat wc wz w80 w81 w3
                      go_upto_region 22 with fail
                      refine wp_forget (fun X9 => Hid (Notes X9 c (bi :: (W.heap.size + 1) :: W.heap.size :: S) (N ++ P ++ ns1 ++ [1, c5, a5])) ∧ Hid (Kept (Far c ((W.heap.size + 1) :: W.heap.size :: S)) wr X9) ∧ Hid (Blk X9 bi 3 #[.int .i64 i]) ∧ Hid (Blk X9 (wr.heap.size + 1) 3 #[.int .i64 K])) ⟨HNA, HKA, HBA, HB7A⟩ ?_
                      clear HNA HKA HBA HB7A
                      rintro X9 ⟨HNA, HKA, HBA, HB7A⟩
                      have b9 : X9.cell? ⟨bi, 0, none⟩ = some (.int .i64 i) := HBA.out.cell 0
                      have z9 : X9.frozen? ⟨bi, 0, none⟩ = false := HBA.out.frozen 0
                      have k9 : X9.cell? ⟨wr.heap.size + 1, 0, none⟩ = some (.int .i64 K) := HB7A.out.cell 0
                      have l9 := HBA.out.lt
                      have l97 := HB7A.out.lt
                      have hbiW : bi ∉ S := fun h => by have := HS.out _ h; omega
                      have hbin : W.heap.size + 1 < bi := hx3
                      go_upto_region 23 with fail
                      refine wp_forget (fun X0 => Hid (Notes X0 c ((W.heap.size + 1) :: W.heap.size :: S) (N ++ P ++ (ns1 ++ [1, c5, a5]))) ∧ Hid (Kept (Far c ((W.heap.size + 1) :: W.heap.size :: S)) wr X0) ∧ Hid (Blk X0 bi 3 #[.int .i64 ((i : Int) + (K : Int))])) ⟨Lib.hid (by
                          rw [← List.append_assoc]
                          exact (HNA.out.setCell (by simp) _).fewer (fun s hs => List.mem_cons_of_mem _ hs)), Lib.hid (HKA.out.trans ((Kept.refl _ X9).setCell (.inr ⟨by show c ≤ bi; omega, by show bi ∉ (W.heap.size + 1) :: W.heap.size :: S; simp only [List.mem_cons, not_or]; exact ⟨by omega, by omega, hbiW⟩⟩) _)), Lib.hid (HBA.out.put 0 _)⟩ ?_
                      clear HNA HKA HBA HB7A b9 z9 k9 l9 l97
                      rintro X0 ⟨HNA, HKA, HBA⟩
                      have b9 : X0.cell? ⟨bi, 0, none⟩ = some (.int .i64 ((i : Int) + (K : Int))) := HBA.out.cell 0
                      have l9 := HBA.out.lt
                      go_wp2_with fail
                      go_roundw
                      case rel => exact ⟨i + K + 1, _, P ++ (ns1 ++ [1, c5, a5]), rfl, Lib.hid (pin_next (j := i + K + 1) HP.out hcl HNA.out HKA.out ⟨ms, by rw [HNS.out]; simp [num3], by have h1 := HT3.out; rw [HHK.out, List.drop_drop] at h1; rwa [show i + 1 + K = i + K + 1 by omega] at h1⟩ (by rw [HLn.out]; omega) (by have h2 := HNL.out; simp; omega))⟩
                      case measure => simp [intOf, g4]; omega
                    exact AllReadyH.nil
                  exact AllReadyH.nil
                exact AllReadyH.nil
              exact AllReadyH.nil
            exact AllReadyH.nil
      · obtain rfl : i = Ln := by omega
        rw [List.drop_of_length_le (by rw [HLn.out]; exact Nat.le_refl _)] at hT
        have hnt0 : Notes wr c (bi :: (W.heap.size + 1) :: W.heap.size :: S) (N ++ P) := HP.out.1.1
        cases hT with
        | nil =>
          clear hO hK hbc hb2 hb3 hbi hpp hnt hcS hSc hns hrow hq
          go_wp2_with fail
          go_end0
          exact ⟨rfl, pin_end (K := []) HP.out (Kept.refl _ wr) (by rw [List.append_nil]; exact hnt0.fewer (fun s hs => by simp [hs])) HNS.out⟩
end Go.Proofs.Ytfkkhnceffhilaa
