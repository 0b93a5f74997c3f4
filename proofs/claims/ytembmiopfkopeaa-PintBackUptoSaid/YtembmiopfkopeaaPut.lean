/- The contract of Put. -/
import Derived.Test.YtembmiopfkopeaaPutK
namespace Go.Proofs.Ytembmiopfkopeaa
open Go.ChangeShapes Go.WideShapes Go.ChangeAt Go.RowKit
set_option linter.unusedVariables false
set_option linter.unusedSimpArgs false

set_option maxHeartbeats 2000000 in
set_option maxRecDepth 100000 in
theorem put_any (v : Value) (L : List Int) (n t x : Int) (w : World) (hR : BS w v L) (hn : L.length ≤ 140737488351232)
    (n1 : -9223372036854775808 ≤ n) (n2 : n ≤ 9223372036854775807) (t1 : 0 ≤ t) (t2 : t ≤ 255) (x1 : -9223372036854775808 ≤ x) (x2 : x ≤ 9223372036854775807) :
    Calls Try.prog 11 #[v, .int .i64 n, .int .u8 t, .int .i64 x] w fun e w' => ∃ r, e = .returned r ∧ w'.ownsRow w.heap.size 5 1 r (L ++ putL n t x).length (bv (L ++ putL n t x)) ∧ Below w.heap.size w w' := by
  have HR := Lib.hid hR
  obtain ⟨A, cap, rfl, hlc, hcm, hcell⟩ := hR
  unfold maxLen at hcm
  clear hcell
  obtain ⟨i0, hi, hz0, hz1, hz2⟩ := info_parts info5
  generalize hres : putL n t x = res
  unfold putL at hres
  generalize hnl : L.length = nl at *
  go_enter Try.func11, Try.ntmps11
  go_upto_region 2 with (first
    | (refine wpList_make_own _ rfl (.const (.int .i64 0)) (.tmp 14) 23 rfl w.heap.size 5 i0 _ 1 Try.underlying23 hi hz0 hz1 .i64 .i64 _ (nl+6) rfl rfl (by omega) (by rw [hz2]; omega) (by unfold maxLen; omega) (by go_size) ?_
       intro w1 hown1 hg1))
  have hB1 : Below w.heap.size w w1 := Below.grown (by go_grown) hg1 (by go_size) (fun g hg => by cases hg)
  have HO := Lib.hid hown1
  have hs1 := hB1.size
  have HR1 := Lib.hid (HR.out.below hB1 (Nat.le_refl _))
  clear hown1 hg1
  go_upto_region 3 with (first
    | (at_builtin
       refine wpList_append_src rfl (.tmp 16) (.tmp 17) 23 rfl w.heap.size 5 i0 _ 1 1 Try.underlying23 hi hz0 hz1 hz2 rfl (by decide) _ 0 [] rfl HO.out A nl cap (bv L) rfl (bs_src HR1.out).2.1 (by rw [bv_len, hnl, Nat.mul_one]) (bs_src HR1.out).2.2 (bv_one _) (by unfold maxLen; omega) (by omega) (by go_size) ?_
       intro v2 w2 hown2 hg2))
  rw [List.nil_append, Nat.zero_add] at hown2
  have hB2 : Below w.heap.size w w2 := Below.grown (w := _) hB1 hg2 (by go_size) (fun g hg => (HO.out.lt g hg).1)
  have hs2 := hB2.size
  clear HO HR1 hg2 hB1 hs1
  have HO := Lib.hid hown2
  clear hown2
  by_cases hbad : n < 1 ∨ 8 < n ∨ x < 0 ∨ 2147483647 < x
  · rw [if_pos hbad] at hres
    subst hres
    rcases (show n < 1 ∨ (1 ≤ n ∧ 8 < n) ∨ (1 ≤ n ∧ n ≤ 8 ∧ x < 0) ∨ (1 ≤ n ∧ n ≤ 8 ∧ 0 ≤ x ∧ 2147483647 < x) by omega) with g1 | ⟨g1, g2⟩ | ⟨g1, g2, g3⟩ | ⟨g1, g2, g3, g4⟩ <;>
    · go_wp2_with fail
      go_ret
      exact ⟨_, rfl, by rw [List.append_nil, hnl]; exact HO.out, hB2⟩
  rw [if_neg hbad] at hres
  have h1 : 1 ≤ n := by omega
  have h2 : n ≤ 8 := by omega
  have h3 : 0 ≤ x := by omega
  have h4 : x ≤ 2147483647 := by omega
  have hb1 : ¬ n < 1 := by omega
  have hb2 : ¬ 8 < n := by omega
  have hb3 : ¬ x < 0 := by omega
  have hp : 2 ≤ pw n ∧ pw n ≤ 256 := by rcases pw_cases h1 h2 with ⟨rfl, e⟩ | ⟨rfl, e⟩ | ⟨rfl, e⟩ | ⟨rfl, e⟩ | ⟨rfl, e⟩ | ⟨rfl, e⟩ | ⟨rfl, e⟩ | ⟨rfl, e⟩ <;> rw [e] <;> omega
  have hwm : IntKind.u8.wrap (pw n - 1) = pw n - 1 := by rw [wrap_u8_is]; omega
  by_cases hlt : x < pw n - 1
  · rw [if_pos hlt] at hres
    have hwx : IntKind.u8.wrap x = x := by rw [wrap_u8_is]; omega
    have hhd := u8_head t x n h1 h2 t1 t2 h3 (by omega)
    generalize t / pw n * pw n + x = hd at *
    subst hres
    go_upto_region 7 with (go_at_call 19; refine (full_any _ _ h1 h2).mono ?_; rintro e w1 ⟨rfl, rfl⟩)
    have hN := World.news_of_block (w := w2.alloc (.cells #[.int .u8 (hd)] 5)) (B := w2.heap.size) (heap_alloc_new w2 _)
    have HN := Lib.hid hN
    have HOa := Lib.hid (HO.out.alloc (.cells #[.int .u8 (hd)] 5))
    clear hN
    go_wp2_with (first
      | (at_builtin
         refine wpList_append_src rfl (.tmp 39) (.tmp 47) 23 rfl w.heap.size 5 i0 _ 1 1 Try.underlying23 hi hz0 hz1 hz2 rfl (by decide) v2 nl (bv (L)) rfl HOa.out (some ⟨w2.heap.size, 0, none⟩) 1 1 (bv [hd]) rfl (by simp) rfl (fun ad had j u hu => by cases had; exact HN.out j u hu) (bv_one _) (by unfold maxLen; omega) (by omega) (by go_size) ?_
         intro v3 w3 hown hg))
    have hw3 : Below w.heap.size w w3 := Below.grown (w := _) (by go_grown) hg (by go_size) (fun g hg => (HOa.out.lt g hg).1)
    have hsw3 := hw3.size
    rw [bv_app] at hown
    clear hg HOa HN
    go_ret
    exact ⟨v3, rfl, by first | exact hown | simpa [hnl] using hown, hw3⟩
  rw [if_neg hlt] at hres
  have hhd := u8_or_mask t n h1 h2 t1 t2
  generalize t / pw n * pw n + (pw n - 1) = hd at *
  go_upto_region 8 with (go_at_call 19; refine (full_any _ _ h1 h2).mono ?_; rintro e w1 ⟨rfl, rfl⟩)
  have hN := World.news_of_block (w := w2.alloc (.cells #[.int .u8 (hd)] 5)) (B := w2.heap.size) (heap_alloc_new w2 _)
  have HN := Lib.hid hN
  have HOa := Lib.hid (HO.out.alloc (.cells #[.int .u8 (hd)] 5))
  clear hN
  go_upto_region 9 with (first
    | (at_builtin
       refine wpList_append_src rfl (.tmp 49) (.tmp 54) 23 rfl w.heap.size 5 i0 _ 1 1 Try.underlying23 hi hz0 hz1 hz2 rfl (by decide) v2 nl (bv (L)) rfl HOa.out (some ⟨w2.heap.size, 0, none⟩) 1 1 (bv [hd]) rfl (by simp) rfl (fun ad had j u hu => by cases had; exact HN.out j u hu) (bv_one _) (by unfold maxLen; omega) (by omega) (by go_size) ?_
       intro v3 w3 hown hg))
  have hw3 : Below w.heap.size w w3 := Below.grown (w := _) (by go_grown) hg (by go_size) (fun g hg => (HOa.out.lt g hg).1)
  have hsw3 := hw3.size
  rw [bv_app] at hown
  clear hg HOa HN
  have HO3 := Lib.hid hown
  clear hown HO
  go_wp2_with fail
  go_loopw [3, 9] (fun s3 s9 wr => ∃ (f : Nat) (y : Int) (M : List Int), s3 = .int .i64 y ∧ 0 ≤ y ∧ y ≤ 2147483647 ∧ f ≤ 5 ∧ y < 128 ^ (f + 1) ∧ M.length + f ≤ nl + 6 ∧ M ++ tailL f y = L ++ res ∧ Hid (wr.ownsRow w.heap.size 5 1 s9 M.length (bv M)) ∧ Below w.heap.size w wr) (fun s3 _ _ => (intOf s3).toNat)
  case atStart => exact ⟨5, x - (pw n - 1), L ++ [hd], by go_num, by omega, by omega, by omega, by simp; omega, by simp; omega, by rw [← hres]; simp, by simpa [hnl] using HO3, hw3⟩
  case round =>
    obtain ⟨f, y, M, rfl, hy0, hy1, hf, hyf, hM, hT, hO, hB⟩ := hrel
    have hwr := hB.size
    by_cases hb : y < 128
    · have hw : IntKind.u8.wrap y = y := by rw [wrap_u8_is]; omega
      rw [tail_small f y hb] at hT
      have hN := World.news_of_block (w := wr.alloc (.cells #[.int .u8 (y)] 5)) (B := wr.heap.size) (heap_alloc_new wr _)
      have HN := Lib.hid hN
      have HOa := Lib.hid (hO.out.alloc (.cells #[.int .u8 (y)] 5))
      clear hN
      go_wp2_with (first
        | (at_builtin
           refine wpList_append_src rfl (.tmp 69) (.tmp 72) 23 rfl w.heap.size 5 i0 _ 1 1 Try.underlying23 hi hz0 hz1 hz2 rfl (by decide) _ M.length (bv (M)) rfl HOa.out (some ⟨wr.heap.size, 0, none⟩) 1 1 (bv [y]) rfl (by simp) rfl (fun ad had j u hu => by cases had; exact HN.out j u hu) (bv_one _) (by unfold maxLen; omega) (by omega) (by go_size) ?_
           intro r2 w4 hown hg))
      have hw4 : Below w.heap.size w w4 := Below.grown (w := _) (by go_grown) hg (by go_size) (fun g hg => (HOa.out.lt g hg).1)
      have hsw4 := hw4.size
      rw [bv_app] at hown
      clear hg HOa HN
      go_ret
      have hl := congrArg List.length hT
      simp [hnl] at hl
      exact ⟨r2, rfl, by simp only [List.length_append, hnl, ← hl]; rw [← hT]; exact hown, hw4⟩
    · cases f with
      | zero => simp at hyf; omega
      | succ g =>
        have hw : IntKind.u8.wrap y = y % 256 := wrap_u8_is y
        have hor : bits .or .u8 (y % 256) 128 = y % 128 + 128 := by rw [u8_or128 _ (by omega) (by omega)]; omega
        rw [tail_big g y hb] at hT
        have hyf' : y / 128 < 128 ^ (g + 1) := Int.ediv_lt_of_lt_mul (by decide) (by rw [Int.pow_succ] at hyf; exact hyf)
        clear hyf
        have hN := World.news_of_block (w := wr.alloc (.cells #[.int .u8 (y % 128 + 128)] 5)) (B := wr.heap.size) (heap_alloc_new wr _)
        have HN := Lib.hid hN
        have HOa := Lib.hid (hO.out.alloc (.cells #[.int .u8 (y % 128 + 128)] 5))
        clear hN
        go_wp2_with (first
          | (at_builtin
             refine wpList_append_src rfl (.tmp 61) (.tmp 65) 23 rfl w.heap.size 5 i0 _ 1 1 Try.underlying23 hi hz0 hz1 hz2 rfl (by decide) _ M.length (bv (M)) rfl HOa.out (some ⟨wr.heap.size, 0, none⟩) 1 1 (bv [y % 128 + 128]) rfl (by simp) rfl (fun ad had j u hu => by cases had; exact HN.out j u hu) (bv_one _) (by unfold maxLen; omega) (by omega) (by go_size) ?_
             intro r2 w4 hown hg))
        have hw4 : Below w.heap.size w w4 := Below.grown (w := _) (by go_grown) hg (by go_size) (fun g hg => (HOa.out.lt g hg).1)
        have hsw4 := hw4.size
        rw [bv_app] at hown
        clear hg HOa HN
        have HO4 := Lib.hid hown
        clear hown hO
        go_roundw
        case rel =>
          exact ⟨g, y / 128, M ++ [y % 128 + 128], by go_num, by omega, by omega, by omega, hyf', by simp; omega, by rw [List.append_assoc]; exact hT, by simpa using HO4, hw4⟩
        case measure => simp [intOf]; omega
end Go.Proofs.Ytembmiopfkopeaa
