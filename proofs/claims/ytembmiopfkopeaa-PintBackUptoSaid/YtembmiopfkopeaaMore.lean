/- PintMore. -/
import Derived.Test.YtembmiopfkopeaaMoreP
import Derived.Test.YtembmiopfkopeaaRuns
import Derived.Test.YtembmiopfkopeaaWit
namespace Go.Proofs.Ytembmiopfkopeaa
open Go.ChangeShapes Go.WideShapes Go.ChangeAt Go.RowKit
set_option linter.unusedVariables false
set_option linter.unusedSimpArgs false

theorem tailJ_byt : ∀ (f : Nat) (x : Int) (j : Nat), 0 ≤ x → x < 128 ^ (f + 1) → Byt (tailJ f x j)
  | 0, x, j, h0, h1 => fun y hy => by
    obtain rfl : y = x := by simpa [tailJ] using hy
    have : y < 128 := by simpa using h1
    omega
  | f + 1, x, j, h0, h1 => fun y hy => by
    rw [tailJ] at hy
    split at hy
    · rename_i h
      obtain rfl : y = x := by simpa using hy
      omega
    · rcases List.mem_cons.1 hy with rfl | hy
      · omega
      · exact tailJ_byt f (x / 128) _ (by omega) (Int.ediv_lt_of_lt_mul (by decide) (by rw [Int.pow_succ] at h1; exact h1)) y hy
theorem mor_byt {k x : Int} (h1 : 1 ≤ k) (h2 : k ≤ 8) (x0 : pw k - 1 ≤ x) (x1 : x ≤ 2147483647) (j : Nat) : Byt (morL k x j) := fun y hy => by
  have hp := pw_bounds h1 h2
  rcases List.mem_cons.1 hy with rfl | hy
  · rw [Int.zero_ediv]; omega
  · exact tailJ_byt 12 _ j (by omega) (by simp; omega) y hy

set_option maxHeartbeats 2000000 in
set_option maxRecDepth 100000 in
theorem more_k (k : Int) (n v q : Int) (w : World) (hk : wit n 1 8 = k)
    (n1 : -9223372036854775808 ≤ n) (n2 : n ≤ 9223372036854775807) (v1 : -9223372036854775808 ≤ v) (v2 : v ≤ 9223372036854775807) (q1 : -9223372036854775808 ≤ q) (q2 : q ≤ 9223372036854775807) :
    Calls Try.prog 9 #[.int .i64 n, .int .i64 v, .int .i64 q] w fun e w' => e = .returned (.bool true) ∧ Below w.heap.size w w' := by
  have k1 := wit_lo n 1 8 (by decide)
  have k2 := wit_hi n 1 8 (by decide)
  rw [hk] at k1 k2
  have hp := pw_bounds k1 k2
  have j1 := wit_lo q 0 6 (by decide)
  have j2 := wit_hi q 0 6 (by decide)
  obtain ⟨i0, hi, hz0, hz1, hz2⟩ := info_parts info5
  obtain ⟨J, hJ⟩ := Int.eq_ofNat_of_zero_le j1
  rw [hJ] at j1 j2
  go_enter Try.func9, Try.ntmps9
  go_upto_region 2 with (go_at_call 18; refine (wit_any _ _ _ _ (by decide) (by decide) (by decide) (by omega) (by omega)).mono ?_; rintro e w1 ⟨rfl, rfl⟩; rw [hk])
  go_cut [8] (fun s8 wx => s8 = .int .i64 (wit v (pw k - 1) 2147483647) ∧ w = wx)
  case first =>
    rcases pw_cases k1 k2 with ⟨rfl, e⟩ | ⟨rfl, e⟩ | ⟨rfl, e⟩ | ⟨rfl, e⟩ | ⟨rfl, e⟩ | ⟨rfl, e⟩ | ⟨rfl, e⟩ | ⟨rfl, e⟩ <;>
    · go_wp2_with (go_at_call 18; refine (wit_any _ _ _ _ (by decide) (by decide) (by decide) (by omega) (by omega)).mono ?_; rintro e w1 ⟨rfl, rfl⟩)
      go_meet
      exact ⟨by rw [e]; rfl, rfl⟩
  case rest =>
  obtain ⟨rfl, rfl⟩ := hcut
  have x1 := wit_lo v (pw k - 1) 2147483647 (by omega)
  have x2 := wit_hi v (pw k - 1) 2147483647 (by omega)
  generalize wit v (pw k - 1) 2147483647 = x at *
  have hmp := mor_put k1 k2 x1 x2
  have hml := Lib.hid (mor_len k1 k2 x1 x2)
  have htl := tl_le (x - (pw k - 1))
  go_upto_region 4 with (go_at_call 11; refine (put_any _ [] _ _ _ _ (bs_nil _) (by simp) (by omega) (by omega) (by omega) (by omega) (by omega) (by omega)).mono ?_; rintro e w2 ⟨r2, rfl, ho2, hB2⟩; rw [List.nil_append, hmp] at ho2; have HO := Lib.hid ho2; obtain ⟨A2, c2, hr2, l2, m2, -⟩ := bs_own ho2 rfl; clear ho2)
  have hs2 := hB2.size
  have hl0 := hml.out 0 (by omega)
  have hl02 : 2 ≤ (morL k x 0).length := by omega
  have hl02' : ¬ ((morL k x 0).length : Int) < 2 := by omega
  clear hl0
  subst hr2
  go_wp2_with (go_at_call 18; refine (wit_any _ _ _ _ (by decide) (by decide) (by decide) (by omega) (by omega)).mono ?_; rintro e w1 ⟨rfl, rfl⟩; rw [hJ])
  clear l2 m2 hl02 hl02'
  go_loopw [9, 11] (fun s9 s11 wr => ∃ i : Nat, s11 = .int .i64 i ∧ i ≤ J ∧ Hid (wr.ownsRow w.heap.size 5 1 s9 (morL k x i).length (bv (morL k x i))) ∧ Below w.heap.size w wr) (fun _ s11 _ => J - (intOf s11).toNat)
  case atStart => exact ⟨0, rfl, by omega, HO, hB2⟩
  case round =>
    obtain ⟨i, rfl, hiJ, hO, hB⟩ := hrel
    have hwr := hB.size
    have hli := hml.out i (by omega)
    have hln := hml.out (i + 1) (by omega)
    by_cases hlt : i < J
    · have hlt' : (i : Int) < (J : Int) := by omega
      obtain ⟨z, z0, z1, hz, hnext⟩ := mor_next k1 k2 x1 x2 i (by omega)
      generalize hM : morL k x i = M at *
      generalize hM' : morL k x (i + 1) = M' at *
      obtain ⟨m, hm⟩ : ∃ m, M.length = m + 1 := ⟨M.length - 1, by omega⟩
      have hm20 : m ≤ 20 := by omega
      have hl' : M'.length = m + 2 := by omega
      clear hli hln
      rw [hm] at hO hz hnext
      rw [show m + 1 - 1 = m by omega] at hz hnext
      obtain ⟨g, cap, rfl, hgB, hcap⟩ : ∃ g cap, u9 = .slice (some ⟨g, 0, none⟩) (m + 1) cap ∧ w.heap.size ≤ g ∧ m + 1 ≤ cap := by
        rcases hO.out.2 with ⟨-, h0⟩ | ⟨g, cap, cur, h, hgB, -, hlc, -, -, -⟩
        · omega
        · exact ⟨g, cap, h, hgB, hlc⟩
      have hgl := (hO.out.lt g rfl).2
      have e0 : wr.cell? ⟨g, m, none⟩ = some (.int .u8 z) := by
        have := hO.out.cellAt m (by omega)
        rw [this, bv_get _ _ (by omega), hz]
      have f0 : wr.frozen? ⟨g, m, none⟩ = false := hO.out.frozenAt m
      have hor : bits .or .u8 z 128 = z + 128 := by rw [u8_or128 _ (by omega) (by omega)]; omega
      have HO1 := Lib.hid (hO.out.stored m (.int .u8 (z + 128))).1
      have HG1 := Lib.hid (hO.out.stored m (.int .u8 (z + 128))).2
      clear hO
      go_upto_region 11 with fail
      have hbs : (bv M).set m (.int .u8 (z + 128)) = bv (M.set m (z + 128)) := by simp [bv, List.map_set]
      refine wp_forget (fun W => W.ownsRow w.heap.size 5 1 (.slice (some ⟨g, 0, none⟩) (m + 1) cap) (m + 1) (bv (M.set m (z + 128))) ∧ Below w.heap.size w W) ⟨by rw [← hbs]; exact HO1.out, Below.grown hB HG1.out hwr (fun g' hg => by cases hg; exact hgB)⟩ ?_
      rintro wq ⟨hOq0, hBq⟩
      have HOq := Lib.hid hOq0
      have hwq := hBq.size
      clear hOq0 HO1 HG1 e0 f0 hgl
      have hN := World.news_of_block (w := wq.alloc (.cells #[.int .u8 (0)] 5)) (B := wq.heap.size) (heap_alloc_new wq _)
      have HN := Lib.hid hN
      have HOa := Lib.hid (HOq.out.alloc (.cells #[.int .u8 (0)] 5))
      clear hN
      go_wp2_with (first
        | (at_builtin
           refine wpList_append_src rfl (.tmp 43) (.tmp 44) 23 rfl w.heap.size 5 i0 _ 1 1 Try.underlying23 hi hz0 hz1 hz2 rfl (by decide) _ (m + 1) (bv (M.set m (z + 128))) rfl HOa.out (some ⟨wq.heap.size, 0, none⟩) 1 1 (bv [0]) rfl (by simp) rfl (fun ad had j u hu => by cases had; exact HN.out j u hu) (bv_one _) (by unfold maxLen; omega) (by omega) (by go_size) ?_
           intro r2 w4 hown hg))
      have hw4 : Below w.heap.size w w4 := Below.grown (w := _) (by go_grown) hg (by go_size) (fun g hg => (HOa.out.lt g hg).1)
      have hsw4 := hw4.size
      rw [bv_app] at hown
      clear hg HOa HN
      have HO4 := Lib.hid hown
      clear hown HOq
      go_roundw
      case rel =>
        refine ⟨i + 1, by go_num, by omega, ?_, hw4⟩
        rw [hM', hl', hnext]
        exact HO4
      case measure => simp [intOf]; omega
    · have hlt' : ¬ (i : Int) < (J : Int) := by omega
      have hget := mor_get k1 k2 x1 x2 i
      have hbyt := Lib.hid (mor_byt k1 k2 x1 x2 i)
      generalize hM : morL k x i = M at *
      obtain ⟨g, cap, rfl, hgB, hcap⟩ : ∃ g cap, u9 = .slice (some ⟨g, 0, none⟩) M.length cap ∧ w.heap.size ≤ g ∧ M.length ≤ cap := by
        rcases hO.out.2 with ⟨-, h0⟩ | ⟨g, cap, cur, h, hgB, -, hlc, -, -, -⟩
        · omega
        · exact ⟨g, cap, h, hgB, hlc⟩
      have HBS := Lib.hid (bs_own hO.out rfl)
      clear hO
      clear hM
      have hm20 : M.length ≤ 20 := by omega
      have hm0 : 0 < M.length := by omega
      clear hli hln
      generalize hlm : M.length = lm at *
      by_cases h6 : lm ≤ 6
      · rw [if_pos h6] at hget
        have h6' : ¬ 5 < (lm : Int) - 1 := by omega
        go_wp2_with (first
          | (go_at_call 16; refine (get_any _ M 0 k _ HBS.out hbyt.out (by decide) (by decide) (by omega) (by omega)).mono ?_; rintro e w5 ⟨rfl, hB5⟩; rw [hget])
          | (go_at_call 3; refine (runs_any _).mono ?_; rintro e w6 ⟨rfl, hB6⟩))
        go_ret
        exact ⟨rfl, Below.trans hB (Below.trans (hB5.mono hwr) (hB6.mono (by have := hB5.size; omega)))⟩
      · rw [if_neg h6] at hget
        have h6' : 5 < (lm : Int) - 1 := by omega
        go_wp2_with (first
          | (go_at_call 16; refine (get_any _ M 0 k _ HBS.out hbyt.out (by decide) (by decide) (by omega) (by omega)).mono ?_; rintro e w5 ⟨rfl, hB5⟩; rw [hget])
          | (go_at_call 3; refine (runs_any _).mono ?_; rintro e w6 ⟨rfl, hB6⟩))
        go_ret
        exact ⟨rfl, Below.trans hB (Below.trans (hB5.mono hwr) (hB6.mono (by have := hB5.size; omega)))⟩
end Go.Proofs.Ytembmiopfkopeaa
