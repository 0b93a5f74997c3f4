/- SettingParts. -/
import Derived.Test.YtdlmocjkhkopgaaParts0
import Derived.Deep.DeepCutAuto
namespace Go.Proofs.Ytdlmocjkhkopgaa
open Go.ChangeShapes Go.WideShapes Go.ChangeAt Go.RowKit
set_option linter.unusedVariables false
set_option linter.unusedSimpArgs false

theorem step_append_kept {w : World} {ops : Array Oper} {o : Oper} {a : Act} {K : Act → World → Prop} {Q : Exit → Act → World → Prop} {E : Prop} (hgd : o.guard = none) (s x : Operand)
    (ho : o.op = .call { callee := .builtin .append, args := #[s, x], argTypes := #[30, 30] })
    (base : Nat) (v : Value) (n : Nat) (xs : List Value) (hs : a.eval s = v) (hown : w.ownsRow base 29 2 v n xs)
    (A : Option Addr) (m c : Nat) (news : List Value) (hx : a.eval x = .slice A m c) (hA : A = none → m = 0) (hl : news.length = m * 2) (hnews : ∀ ad, A = some ad → ∀ j u, news[j]? = some u → w.cell? (ad.add j) = some u) (h1 : ∀ u ∈ news, u.oneCell' = true)
    (h63 : n + m ≤ 1000) (hbase : base ≤ w.heap.size) (W : World) (hW : Below base W w)
    (h : ∀ v' w', w'.ownsRow base 29 2 v' (n + m) (xs ++ news) → Below base W w' → (∀ b, Blk w b 23 z5 → Blk w' b 23 z5) → w.heap.size ≤ w'.heap.size → base ≤ w'.heap.size → K (a.put o.dst v') w') :
    if Region.wanted o (yielded ops a.tmps) = true then Oper.wp Try.prog o a w K Q else E := by
  obtain ⟨i0, hi, hz0, hz1, hz2⟩ := info_parts info29
  refine step_append_src hgd s x 30 ho base 29 i0 _ 2 16 Try.underlying30 hi hz0 hz1 hz2 rfl (by decide) v n xs hs hown A m c news hx hA hl hnews h1 (by unfold maxLen; omega) (by omega) hbase ?_
  intro v' w' h2 h3
  exact h v' w' h2 (hW.grown h3 hbase (fun g hg => (hown.lt g hg).1)) (blk_kept hown h3) h3.size (Nat.le_trans hbase h3.size)

set_option maxHeartbeats 20000000 in
set_option maxRecDepth 100000 in
theorem parts_any (x : S5) (v1 v2 : Value) (n1 n2 : Nat) (Z1 Z2 : Nat → Nat → Int) (w : World)
    (hR1 : Rowy w v1 n1 2 (fun i j => .int .i64 (Z1 i j))) (hR2 : Rowy w v2 n2 2 (fun i j => .int .i64 (Z2 i j)))
    (hZ1 : ∀ i j, i < n1 → j < 2 → -9223372036854775808 ≤ Z1 i j ∧ Z1 i j ≤ 9223372036854775807) (hZ2 : ∀ i j, i < n2 → j < 2 → -9223372036854775808 ≤ Z2 i j ∧ Z2 i j ≤ 9223372036854775807)
    (hm1 : n1 ≤ 30) (hm2 : n2 ≤ 30) :
    Calls Try.prog 5 #[agg5 x, v1, v2] w fun e w' => e = .returned (.bool true) ∧ Below w.heap.size w w' := by
  have HR1 := Lib.hid hR1
  have HR2 := Lib.hid hR2
  have HZ1 := Lib.hid hZ1
  have HZ2 := Lib.hid hZ2
  obtain ⟨A1, cap1, rfl, hn1, hk1, -⟩ := hR1
  obtain ⟨A2, cap2, rfl, hn2, hk2, -⟩ := hR2
  have hb1 : Hid (∀ w', Below w.heap.size w w' → Rowy w' (.slice A1 n1 cap1) n1 2 (fun i j => .int .i64 (Z1 i j))) := Lib.hid fun _ h => HR1.out.below h (Nat.le_refl _)
  have hb2 : Hid (∀ w', Below w.heap.size w w' → Rowy w' (.slice A2 n2 cap2) n2 2 (fun i j => .int .i64 (Z2 i j))) := Lib.hid fun _ h => HR2.out.below h (Nat.le_refl _)
  clear hZ1 hZ2
  have g4 : decide ((30 : Int) < (n2 : Int)) = false := by simp; omega
  obtain ⟨i0, hi, hz0, hz1, hz2⟩ := info_parts info29
  unfold agg5
  go_enter Try.func5, Try.ntmps5
  go_wp2_with fail
  refine (apply_any x _ n1 Z1 _ (hb1.out _ (by go_grown)) HZ1.out).mono ?_
  rintro e w1 ⟨y, c, hans, rfl, hB1⟩
  have HA1 := Lib.hid hans
  have hBw1 : Below w.heap.size w w1 := Below.trans (by go_grown) (hB1.mono (by simp only [World.size_alloc]; omega))
  have hs1 := hB1.size
  simp only [World.size_alloc] at hs1
  have hF3 : FX w1 w.heap.size x := FX.below ⟨by go_simp, by go_simp, by go_simp, by go_simp, by go_simp⟩ hB1 (by simp only [World.size_alloc]; omega)
  clear hB1 hans
  unfold agg5
  obtain ⟨a0, a1, a2, a3, a4⟩ := hF3
  have hl3 : w.heap.size < w1.heap.size := by omega
  go_wp2_with (go_at_call 9; refine (apply_any y _ n2 Z2 _ (hb2.out _ (by go_grown)) HZ2.out).mono ?_; rintro e w2 ⟨z, d, hans, rfl, hB2⟩; unfold agg5)
  have HA2 := Lib.hid hans
  have hs2 := hB2.size
  simp only [World.size_alloc] at hs2
  have hF7 : FX w2 w1.heap.size y := (FX.new w1 _ y rfl).below hB2 (by simp only [World.size_alloc]; omega)
  have hF3 : FX w2 w.heap.size x := (FX.alloc ⟨a0, a1, a2, a3, a4⟩ _ hl3).below hB2 (by simp only [World.size_alloc]; omega)
  have hBw2 : Below w.heap.size w w2 := Below.trans (by go_grown) (hB2.mono (by simp only [World.size_alloc]; omega))
  clear hB2 hans a0 a1 a2 a3 a4
  refine wp_forget (fun W => Below w.heap.size w W ∧ FX W w.heap.size x ∧ FX W w1.heap.size y ∧ FX W w2.heap.size z ∧ w2.heap.size < W.heap.size) ⟨by go_grown, hF3.alloc _ (by omega), hF7.alloc _ (by omega), FX.new _ _ _ rfl, by simp only [World.size_alloc]; omega⟩ ?_
  rintro W ⟨hBW, hF3, hF7, hF9, hl9⟩
  have hl3 : w.heap.size < w1.heap.size := by omega
  have hl7 : w1.heap.size < w2.heap.size := by omega
  generalize w2.heap.size = b9 at *
  generalize w1.heap.size = b7 at *
  have hx3 : w.heap.size < W.heap.size := by omega
  have hwW := hBW.size
  have hsz : w.heap.size ≤ W.heap.size := by omega
  obtain ⟨a0, a1, a2, a3, a4⟩ := hF3
  have H3 : Hid (FX W w.heap.size x) := Lib.hid ⟨a0, a1, a2, a3, a4⟩
  have hbW : ∀ w', Below W.heap.size W w' → Below w.heap.size w w' := fun w' h => hBW.trans (h.mono hsz)
  have hz3 : ∀ i j, i < n1 + n2 → j < 2 → -9223372036854775808 ≤ bothZ Z1 Z2 n1 i j ∧ bothZ Z1 Z2 n1 i j ≤ 9223372036854775807 := fun i j hi hj => by
    unfold bothZ; split
    · rename_i h; exact HZ1.out i j h hj
    · exact HZ2.out (i - n1) j (by omega) hj
  go_cut [11, 12] (fun s11 s12 wx => ∃ (g : Nat) (r : S5) (f : Int), s11 = .pointer (some ⟨g, 0, none⟩) ∧ s12 = .int .i64 f ∧ Hid (Ans (bothZ Z1 Z2 n1) x (n1 + n2) r f) ∧ FX wx g r ∧ Below W.heap.size W wx)
  case first =>
    go_region_held3 (fun w' => Below W.heap.size W w' ∧ FX w' w.heap.size x) (refine ⟨?_, FX.below H3.out ?_ hx3⟩ <;> go_grown) (first
      | (refine step_append_kept rfl (.tmp 36) (.tmp 37) rfl W.heap.size _ 0 [] rfl (by first | exact own_new _ _ _ _ _ _ rfl (by first | with_reducible rfl | simp only [World.size_alloc, World.size_drew]) (by go_size) | exact (own_new _ _ _ _ _ _ rfl (by first | with_reducible rfl | simp only [World.size_alloc, World.size_drew]) (by go_size)).alloc _) A1 n1 cap1 (pairsOf Z1 n1) rfl (rowy_src (hb1.out _ (hbW _ (by go_grown)))).1 (pairsOf_len _ _) (rowy_src (hb1.out _ (hbW _ (by go_grown)))).2 (pairs_one _ _) (by omega) (by go_size) W (by go_grown) ?_
         intro va wa hown1 hBa F1 hwas hBas
         simp only [Nat.zero_add, List.nil_append] at hown1
         simp only [World.size_alloc, World.size_drew] at hwas)
      | (refine step_append_kept rfl (.tmp 38) (.tmp 39) rfl W.heap.size va n1 _ rfl (by first | exact hown1 | exact hown1.alloc _) A2 n2 cap2 (pairsOf Z2 n2) rfl (rowy_src (hb2.out _ (hbW _ (by go_grown)))).1 (pairsOf_len _ _) (rowy_src (hb2.out _ (hbW _ (by go_grown)))).2 (pairs_one _ _) (by omega) (by go_size) W (by go_grown) ?_
         intro vb wb hown2 hBb F2 hwbs hBbs
         rw [pairs_both] at hown2
         try simp only [World.size_alloc, World.size_drew] at hwbs)
      | (go_at_call 9
         refine (apply_any x _ (n1 + n2) (bothZ Z1 Z2 n1) _ (rowy_own2 (by first | exact hown2 | exact hown2.alloc _)) hz3).mono ?_
         rintro e w3 ⟨r, f, hans3, rfl, hB3⟩
         unfold agg5
         have hBc : Below W.heap.size W w3 := Below.trans (by go_grown) (hB3.mono (by go_size))
         have hBcs := hBc.size
         first
           | (refine (fun (kz : Blk w3 (W.heap.size) 23 z5) => ?_) ?_
              rotate_left
              focus
                refine Blk.below ?_ hB3 (by first | omega | (simp only [World.size_alloc, World.size_drew]; first | done | omega))
                repeat' (first | with_reducible refine Blk.drew ?_ | exact Blk.new_at (by first | omega | (simp only [World.size_alloc, World.size_drew]; first | done | omega)) | refine Blk.alloc ?_ _ | refine F2 _ ?_ | refine F1 _ ?_)
                all_goals fail "stuck"
              obtain ⟨k0, k1, k2, k3, k4, k5, k6, k7, k8, k9⟩ := blk_cells kz)
           | (refine (fun (kz : Blk w3 (W.heap.size + 1) 23 z5) => ?_) ?_
              rotate_left
              focus
                refine Blk.below ?_ hB3 (by first | omega | (simp only [World.size_alloc, World.size_drew]; first | done | omega))
                repeat' (first | with_reducible refine Blk.drew ?_ | exact Blk.new_at (by first | omega | (simp only [World.size_alloc, World.size_drew]; first | done | omega)) | refine Blk.alloc ?_ _ | refine F2 _ ?_ | refine F1 _ ?_)
                all_goals fail "stuck"
              obtain ⟨k0, k1, k2, k3, k4, k5, k6, k7, k8, k9⟩ := blk_cells kz)
           | (refine (fun (kz : Blk w3 (wa.heap.size) 23 z5) => ?_) ?_
              rotate_left
              focus
                refine Blk.below ?_ hB3 (by first | omega | (simp only [World.size_alloc, World.size_drew]; first | done | omega))
                repeat' (first | with_reducible refine Blk.drew ?_ | exact Blk.new_at (by first | omega | (simp only [World.size_alloc, World.size_drew]; first | done | omega)) | refine Blk.alloc ?_ _ | refine F2 _ ?_ | refine F1 _ ?_)
                all_goals fail "stuck"
              obtain ⟨k0, k1, k2, k3, k4, k5, k6, k7, k8, k9⟩ := blk_cells kz)
           | (refine (fun (kz : Blk w3 (wb.heap.size) 23 z5) => ?_) ?_
              rotate_left
              focus
                refine Blk.below ?_ hB3 (by first | omega | (simp only [World.size_alloc, World.size_drew]; first | done | omega))
                repeat' (first | with_reducible refine Blk.drew ?_ | exact Blk.new_at (by first | omega | (simp only [World.size_alloc, World.size_drew]; first | done | omega)) | refine Blk.alloc ?_ _ | refine F2 _ ?_ | refine F1 _ ?_)
                all_goals fail "stuck"
              obtain ⟨k0, k1, k2, k3, k4, k5, k6, k7, k8, k9⟩ := blk_cells kz)
           | skip))
    all_goals
      go_wp2_with fail
      go_meet
      refine ⟨_, r, f, rfl, rfl, Lib.hid hans3, ?_, ?_⟩
      · first | with_reducible exact FX.new _ _ _ rfl | (refine ⟨?_, ?_, ?_, ?_, ?_⟩ <;> go_simp)
      · go_grown
  case rest =>
    obtain ⟨g, r, f, rfl, rfl, HA3, hF11, hBc⟩ := hcut
    have hF3' := FX.below H3.out hBc hx3
    have hF7' := FX.below hF7 hBc (by omega)
    have hF9' := FX.below hF9 hBc hl9
    obtain ⟨p0, p1, p2, p3, p4⟩ := hF3'
    obtain ⟨q0, q1, q2, q3, q4⟩ := hF7'
    obtain ⟨r0, r1, r2, r3, r4⟩ := hF9'
    obtain ⟨t0, t1, t2, t3, t4⟩ := hF11
    clear hF3 hF7 hF9 a0 a1 a2 a3 a4 H3
    have hBe : Below w.heap.size w wc := hbW _ hBc
    by_cases hc : c = 0
    · subst hc
      by_cases hd : d = 0
      · subst hd
        obtain ⟨rfl, rfl⟩ := HA3.out.one (ans_both_ok HA1.out HA2.out)
        go_wp2_with (go_at_call 3; refine (runs_any _).mono ?_; rintro e w2 ⟨rfl, hB2⟩)
        go_ret
        exact ⟨rfl, hBe.trans (hB2.mono hBe.size)⟩
      · obtain ⟨rfl, ha⟩ := ans_both_bad2 (k := n2) HA1.out HA2.out hd
        obtain ⟨rfl, rfl⟩ := HA3.out.one ha
        have hd' : (f == 0) = false := by simpa using hd
        go_wp2_with (go_at_call 3; refine (runs_any _).mono ?_; rintro e w2 ⟨rfl, hB2⟩)
        go_ret
        exact ⟨rfl, hBe.trans (hB2.mono hBe.size)⟩
    · obtain ⟨rfl, ha⟩ := ans_both_bad (Z := Z2) (k := n2) HA1.out hc
      obtain ⟨rfl, rfl⟩ := HA3.out.one ha
      have hc' : (f == 0) = false := by simpa using hc
      go_wp2_with (go_at_call 3; refine (runs_any _).mono ?_; rintro e w2 ⟨rfl, hB2⟩)
      go_ret
      exact ⟨rfl, hBe.trans (hB2.mono hBe.size)⟩
end Go.Proofs.Ytdlmocjkhkopgaa
