/- ShapeNumbers. -/
import Derived.Test.YtolpfbdklcjlkaaPlain
import Derived.Laws.BitsAllLaws
namespace Go.Proofs.Ytolpfbdklcjlkaa
open Go.ChangeShapes Go.WideShapes Go.ChangeAt Go.RowKit
set_option linter.unusedVariables false
set_option linter.unusedSimpArgs false

/-- The four bytes of a number. -/
def b4 (n : Int) : List Int := [n / 16777216, n / 65536 % 256, n / 256 % 256, n % 256]
theorem b4_byt (n : Int) (h0 : 0 ≤ n) (h1 : n ≤ 4294967295) : Byt (b4 n) := fun x hx => by
  simp [b4] at hx
  omega
theorem b4_num (n : Int) (M : List Int) : num (b4 n ++ M) 0 = n / 16777216 * 16777216 + n / 65536 % 256 * 65536 + n / 256 % 256 * 256 + n % 256 := rfl
theorem b4_num' (n : Int) (M : List Int) (h0 : 0 ≤ n) (h1 : n ≤ 4294967295) : num (b4 n ++ M) 0 = n := by rw [b4_num]; omega
theorem andNot_top (a : Int) (h0 : 0 ≤ a) (h1 : a ≤ 4294967295) : bits .andNot .u32 a 2147483648 = a % 2147483648 := by
  rw [u32_andNot a 2147483648 h0 (by omega) (by omega) (by omega)]
  rw [show 4294967295 - (2147483648 : Int).toNat = 2 ^ 31 - 1 from rfl, Nat.and_two_pow_sub_one_eq_mod]
  omega
theorem right_ok (ty st : Int) (L : List Int) (h0 : 0 ≤ ty) (h1 : ty ≤ 9) (s0 : 0 ≤ st) (s1 : st ≤ 2147483647) (hl : L.length ≤ 300) : rightB ty 0 st L.length = true := by
  unfold rightB; apply decide_eq_true; omega
theorem n_reset (k a : Int) (k0 : 1 ≤ k) (k1 : k ≤ 2147483647) (h0 : 0 ≤ a) (h1 : a ≤ 4294967295) : ofF 3 0 k (b4 a) = (⟨3, k, false, false, false, [], a, 0, 0, 0, 0, fun _ => (0, 0)⟩, (0, 0, 0)) := by
  have hr : rightB 3 0 k (b4 a).length = true := right_ok 3 k _ (by decide) (by decide) (by omega) k1 (by show 4 ≤ 300; decide)
  have hm : misB 3 k = false := by unfold misB; simp; omega
  have hn : num (b4 a) 0 = a := by have := b4_num' a [] h0 h1; rwa [List.append_nil] at this
  unfold ofF
  rw [if_neg (by rw [hr]; simp), if_neg (by rw [hm]; simp), if_neg (by decide), if_neg (by decide), if_neg (by decide), if_pos rfl]
  unfold resetF
  rw [if_neg (show ¬ (b4 a).length ≠ 4 from fun h => h rfl), hn]
  rfl
theorem n_wind (k a : Int) (k0 : 1 ≤ k) (k1 : k ≤ 2147483647) (h0 : 0 ≤ a) (h1 : a ≤ 4294967295) (hp : 0 < a % 2147483648) : ofF 8 0 k (b4 a) = (⟨8, k, false, false, false, [], 0, 0, a % 2147483648, 0, 0, fun _ => (0, 0)⟩, (0, 0, 0)) := by
  have hr : rightB 8 0 k (b4 a).length = true := right_ok 8 k _ (by decide) (by decide) (by omega) k1 (by show 4 ≤ 300; decide)
  have hm : misB 8 k = false := rfl
  have hn : num (b4 a) 0 = a := by have := b4_num' a [] h0 h1; rwa [List.append_nil] at this
  unfold ofF
  rw [if_neg (by rw [hr]; simp), if_neg (by rw [hm]; simp), if_neg (by decide), if_neg (by decide), if_neg (by decide), if_neg (by decide), if_neg (by decide), if_neg (by decide), if_neg (by decide), if_pos rfl]
  unfold windF
  rw [if_neg (show ¬ (b4 a).length ≠ 4 from fun h => h rfl), hn, if_pos hp]
  rfl
theorem n_wind0 (k a : Int) (k0 : 1 ≤ k) (k1 : k ≤ 2147483647) (h0 : 0 ≤ a) (h1 : a ≤ 4294967295) (hp : a % 2147483648 = 0) : ofF 8 0 k (b4 a) = (⟨0, 0, false, false, false, [], 0, 0, 0, 0, 0, fun _ => (0, 0)⟩, (1, 1, k)) := by
  have hr : rightB 8 0 k (b4 a).length = true := right_ok 8 k _ (by decide) (by decide) (by omega) k1 (by show 4 ≤ 300; decide)
  have hm : misB 8 k = false := rfl
  have hn : num (b4 a) 0 = a := by have := b4_num' a [] h0 h1; rwa [List.append_nil] at this
  unfold ofF
  rw [if_neg (by rw [hr]; simp), if_neg (by rw [hm]; simp), if_neg (by decide), if_neg (by decide), if_neg (by decide), if_neg (by decide), if_neg (by decide), if_neg (by decide), if_neg (by decide), if_pos rfl]
  unfold windF
  rw [if_neg (show ¬ (b4 a).length ≠ 4 from fun h => h rfl), hn, if_neg (by omega), if_neg (by omega)]
  rfl
theorem n_away (a b : Int) (h0 : 0 ≤ a) (h1 : a ≤ 4294967295) (g0 : 0 ≤ b) (g1 : b ≤ 4294967295) : ofF 7 0 0 (b4 a ++ b4 b) = (⟨7, 0, false, false, false, [], b, a % 2147483648, 0, 0, 0, fun _ => (0, 0)⟩, (0, 0, 0)) := by
  have hr : rightB 7 0 0 (b4 a ++ b4 b).length = true := right_ok 7 0 _ (by decide) (by decide) (by decide) (by decide) (by show 8 ≤ 300; decide)
  have hm : misB 7 0 = false := rfl
  have hn := b4_num' a (b4 b) h0 h1
  have hn2 : num (b4 a ++ b4 b) 4 = b := by have h := num_drop (b4 a ++ b4 b) 4 0; rw [Nat.add_zero] at h; rw [← h, show (b4 a ++ b4 b).drop 4 = b4 b ++ [] by simp [b4]]; exact b4_num' b [] g0 g1
  unfold ofF
  rw [if_neg (by rw [hr]; simp), if_neg (by rw [hm]; simp), if_neg (by decide), if_neg (by decide), if_neg (by decide), if_neg (by decide), if_neg (by decide), if_neg (by decide), if_pos rfl]
  unfold awayF
  rw [if_neg (show ¬ (b4 a ++ b4 b).length < 8 from by show ¬ 8 < 8; decide), hn, hn2, show (b4 a ++ b4 b).drop 8 = [] by simp [b4]]
  rfl
theorem four_mk (n : Int) (w : World) (h0 : 0 ≤ n) (h1 : n ≤ 4294967295) :
    Calls Try.prog 18 #[.int .u32 n] w fun e w' => e = .returned (.slice (some ⟨w.heap.size, 0, none⟩) 4 4) ∧ w' = w.alloc (.cells (bv (b4 n)).toArray 5) := by
  go_enter Try.func18, Try.ntmps18
  go_wp2
  go_ret
  exact ⟨rfl, rfl⟩
theorem news_at (w : World) (O : Array Value) (M : List Int) : ∀ j u, (bv M)[j]? = some u → ((w.alloc (.cells O 5)).alloc (.cells (bv M).toArray 5)).cell? (Addr.add ⟨w.heap.size + 1, 0, none⟩ j) = some u := fun j u hj => by
  rw [add_plain, Nat.zero_add, (Blk.new_at (by simp only [World.size_alloc])).cell]
  simpa using hj
theorem byt_app {L M : List Int} (h1 : Byt L) (h2 : Byt M) : Byt (L ++ M) := fun x hx => by
  rcases List.mem_append.1 hx with h | h
  · exact h1 x h
  · exact h2 x h
set_option maxHeartbeats 8000000 in
set_option maxRecDepth 100000 in
theorem num_pos (a b s K M : Int) (w : World) (a0 : 0 ≤ a) (a1 : a ≤ 4294967295) (b0 : 0 ≤ b) (b1 : b ≤ 4294967295) (s0 : -9223372036854775808 ≤ s) (s1 : s ≤ 9223372036854775807) (hk : wit s 1 2147483647 = K) (hM : a % 2147483648 = M) (hp : 0 < M) :
    Calls Try.prog 9 #[.int .u32 a, .int .u32 b, .int .i64 s] w fun e w' => e = .returned (.bool true) ∧ Below w.heap.size w w' := by
  have k0 : 1 ≤ K := by rw [← hk]; exact wit_lo s 1 2147483647 (by decide)
  have k1 : K ≤ 2147483647 := by rw [← hk]; exact wit_hi s 1 2147483647 (by decide)
  have M0 : 0 ≤ M := by omega
  have M1 : M ≤ 2147483647 := by omega
  have HBA := Lib.hid (b4_byt a a0 a1)
  have HBB := Lib.hid (b4_byt b b0 b1)
  have HO1 := Lib.hid (n_reset K a k0 k1 a0 a1)
  have ho3 := n_away a b a0 a1 b0 b1
  rw [hM] at ho3
  have HO3 := Lib.hid ho3
  clear ho3
  have ho2 := n_wind K a k0 k1 a0 a1 (by omega)
  rw [hM] at ho2
  have HO2 := Lib.hid ho2
  clear ho2
  have hmore := andNot_top a a0 a1
  rw [hM] at hmore
  have HM := Lib.hid hM
  clear hM
  obtain ⟨i0, hi, hz0, hz1, hz2⟩ := info_parts info5
  go_enter Try.func9, Try.ntmps9
  go_upto_region 4 with (first | (go_at_call 17; refine (wit_any _ _ _ _ (by decide) (by decide) (by decide) (by omega) (by omega)).mono ?_; rintro e w0 ⟨rfl, rfl⟩; rw [hk]) | (go_at_call 18; refine (four_mk _ _ (by omega) (by omega)).mono ?_; rintro e v ⟨rfl, rfl⟩) | (go_at_call 10; refine (of_is 3 0 K _ (b4 a) _ (bs_lit w (b4 a) (by show 4 ≤ 1000; decide) _ (by first | rfl | go_size)) HBA.out _ _ _ _ _ _ _ _ _ _ _ _ _ _ _ HO1).mono ?_; rintro e w1 ⟨⟨Ab1, cb1, As1, cs1, rfl, -, -⟩, hB1⟩; have hD1 : Below w.heap.size w w1 := Below.trans (below_self _ (.cells (bv (b4 a)).toArray 5)) (hB1.mono (Nat.le_of_lt (lt_alloc _ _))); have hE1 := hD1.size))
  refine wp_forget (fun W => Below w.heap.size w W ∧ w1.heap.size + 1 < W.heap.size ∧ Hid (Blk W w1.heap.size 26 #[.int .i64 3, .int .i64 K, .bool false, .bool false, .bool false, .slice Ab1 0 cb1, .int .i64 a, .int .i64 0, .int .i64 0, .int .i64 0, .slice As1 0 cs1]) ∧ Hid (Blk W (w1.heap.size + 1) 28 #[.int .i64 0, .int .i64 0, .int .i64 0])) ⟨by go_grown, by go_size, Lib.hid ((Blk.new _ _ _).alloc _), Lib.hid (Blk.new_at (by go_size))⟩ ?_
  rintro W1 ⟨hA1, hl1, HP1, HX1⟩
  clear hB1 hD1 hE1 hk
  generalize w1.heap.size = g1 at *
  have hy1 := hA1.size
  go_upto_region 5 with (first | (go_at_call 18; refine (four_mk _ _ (by omega) (by omega)).mono ?_; rintro e v ⟨rfl, rfl⟩) | (go_at_call 10; refine (of_is 8 0 K _ (b4 a) _ (bs_lit W1 (b4 a) (by show 4 ≤ 1000; decide) _ (by first | rfl | go_size)) HBA.out _ _ _ _ _ _ _ _ _ _ _ _ _ _ _ HO2).mono ?_; rintro e w2 ⟨⟨Ab2, cb2, As2, cs2, rfl, -, -⟩, hB2⟩; have hD2 : Below W1.heap.size W1 w2 := Below.trans (below_self _ (.cells (bv (b4 a)).toArray 5)) (hB2.mono (Nat.le_of_lt (lt_alloc _ _))); have hE2 := hD2.size))
  have hP12 := HP1.out.below hD2 (by omega)
  have hX12 := HX1.out.below hD2 (by omega)
  refine wp_forget (fun W => Below w.heap.size w W ∧ w2.heap.size + 1 < W.heap.size ∧ g1 + 1 < W.heap.size ∧ Hid (Blk W g1 26 #[.int .i64 3, .int .i64 K, .bool false, .bool false, .bool false, .slice Ab1 0 cb1, .int .i64 a, .int .i64 0, .int .i64 0, .int .i64 0, .slice As1 0 cs1]) ∧ Hid (Blk W (g1 + 1) 28 #[.int .i64 0, .int .i64 0, .int .i64 0]) ∧ Hid (Blk W w2.heap.size 26 #[.int .i64 8, .int .i64 K, .bool false, .bool false, .bool false, .slice Ab2 0 cb2, .int .i64 0, .int .i64 0, .int .i64 M, .int .i64 0, .slice As2 0 cs2]) ∧ Hid (Blk W (w2.heap.size + 1) 28 #[.int .i64 0, .int .i64 0, .int .i64 0])) ⟨hA1.trans ((hD2.mono (by omega)).trans (by go_grown)), by go_size, by simp only [World.size_alloc]; omega, Lib.hid ((hP12.alloc _).alloc _), Lib.hid ((hX12.alloc _).alloc _), Lib.hid ((Blk.new _ _ _).alloc _), Lib.hid (Blk.new_at (by go_size))⟩ ?_
  clear hP12 hX12 HP1 HX1 hA1 hl1
  rintro W2 ⟨hA2, hl2, hl1, HP1, HX1, HP2, HX2⟩
  clear hB2 hD2 hE2
  generalize w2.heap.size = g2 at *
  have hy2 := hA2.size
  go_upto_region 6 with (first
    | (go_at_call 18; refine (four_mk _ _ (by omega) (by omega)).mono ?_; rintro e v ⟨rfl, rfl⟩)
    | (at_builtin
       refine wpList_append_src rfl (.tmp 40) (.tmp 43) 22 rfl W2.heap.size 5 i0 _ 1 1 Try.underlying22 hi hz0 hz1 hz2 rfl (by decide) (.slice (some ⟨W2.heap.size, 0, none⟩) 4 4) 4 (bv (b4 a)) rfl ((World.ownsRow_lit (base := W2.heap.size) W2 (bv (b4 a)).toArray 4 (Nat.le_refl _) (by decide) rfl).alloc _) (some ⟨W2.heap.size + 1, 0, none⟩) 4 4 (bv (b4 b)) rfl (fun h => by cases h) rfl (fun ad h => by cases h; exact news_at _ _ _) (bv_one _) ?a4 ?a5 ?a6 ?_
       (case a4 => unfold maxLen; omega)
       (case a5 => omega)
       (case a6 => simp only [World.size_alloc]; omega)
       intro va wa hown1 hg1
       have hBa : Below W2.heap.size W2 wa := Below.grown (((below_self W2 _).alloc (by simp only [World.size_alloc]; omega) _)) hg1 (by simp only [World.size_alloc]; omega) (by intro q hq; simp [Value.ownBlock] at hq; omega)
       rw [bv_app] at hown1
       have hBS := bs_own hown1 rfl
       obtain ⟨Av, cv, rfl⟩ := own_form hown1
       have hBas := hBa.size
       clear hg1 hown1)
    | (go_at_call 10; refine (of_is 7 0 0 _ (b4 a ++ b4 b) _ hBS (byt_app HBA.out HBB.out) _ _ _ _ _ _ _ _ _ _ _ _ _ _ _ HO3).mono ?_; rintro e w3 ⟨⟨Ab3, cb3, As3, cs3, rfl, -, -⟩, hB3⟩; have hD3 : Below W2.heap.size W2 w3 := hBa.trans (hB3.mono hBas); have hE3 := hD3.size))
  have hP1 := HP1.out.below hD3 (by omega)
  have hX1 := HX1.out.below hD3 (by omega)
  have hP2 := HP2.out.below hD3 (by omega)
  have hX2 := HX2.out.below hD3 (by omega)
  refine wp_forget (fun W => Below w.heap.size w W ∧ Hid (Blk W g1 26 #[.int .i64 3, .int .i64 K, .bool false, .bool false, .bool false, .slice Ab1 0 cb1, .int .i64 a, .int .i64 0, .int .i64 0, .int .i64 0, .slice As1 0 cs1]) ∧ Hid (Blk W (g1 + 1) 28 #[.int .i64 0, .int .i64 0, .int .i64 0]) ∧ Hid (Blk W g2 26 #[.int .i64 8, .int .i64 K, .bool false, .bool false, .bool false, .slice Ab2 0 cb2, .int .i64 0, .int .i64 0, .int .i64 M, .int .i64 0, .slice As2 0 cs2]) ∧ Hid (Blk W (g2 + 1) 28 #[.int .i64 0, .int .i64 0, .int .i64 0]) ∧ Hid (Blk W w3.heap.size 26 #[.int .i64 7, .int .i64 0, .bool false, .bool false, .bool false, .slice Ab3 0 cb3, .int .i64 b, .int .i64 M, .int .i64 0, .int .i64 0, .slice As3 0 cs3]) ∧ Hid (Blk W (w3.heap.size + 1) 28 #[.int .i64 0, .int .i64 0, .int .i64 0])) ⟨hA2.trans ((hD3.mono (by omega)).trans (by go_grown)), Lib.hid ((hP1.alloc _).alloc _), Lib.hid ((hX1.alloc _).alloc _), Lib.hid ((hP2.alloc _).alloc _), Lib.hid ((hX2.alloc _).alloc _), Lib.hid ((Blk.new _ _ _).alloc _), Lib.hid (Blk.new_at (by go_size))⟩ ?_
  clear hP1 hX1 hP2 hX2 HP1 HX1 HP2 HX2 hA2
  rintro W3 ⟨hA3, HP1, HX1, HP2, HX2, HP3, HX3⟩
  clear hB3 hD3 hE3 hBS hBa hBas
  generalize w3.heap.size = g3 at *
  have hz3 := hA3.size
  have pa : W3.cell? ⟨g1, 6, none⟩ = some (.int .i64 a) := HP1.out.cell 6
  have pb : W3.cell? ⟨g2, 8, none⟩ = some (.int .i64 M) := HP2.out.cell 8
  have pc : W3.cell? ⟨g3, 6, none⟩ = some (.int .i64 b) := HP3.out.cell 6
  have pd : W3.cell? ⟨g3, 7, none⟩ = some (.int .i64 M) := HP3.out.cell 7
  have q0 : W3.cell? ⟨g1 + 1, 0, none⟩ = some (.int .i64 0) := HX1.out.cell 0
  have q1 : W3.cell? ⟨g1 + 1, 1, none⟩ = some (.int .i64 0) := HX1.out.cell 1
  have q2 : W3.cell? ⟨g1 + 1, 2, none⟩ = some (.int .i64 0) := HX1.out.cell 2
  have r0 : W3.cell? ⟨g2 + 1, 0, none⟩ = some (.int .i64 0) := HX2.out.cell 0
  have r1 : W3.cell? ⟨g2 + 1, 1, none⟩ = some (.int .i64 0) := HX2.out.cell 1
  have r2 : W3.cell? ⟨g2 + 1, 2, none⟩ = some (.int .i64 0) := HX2.out.cell 2
  have o0 : W3.cell? ⟨g3 + 1, 0, none⟩ = some (.int .i64 0) := HX3.out.cell 0
  have o1 : W3.cell? ⟨g3 + 1, 1, none⟩ = some (.int .i64 0) := HX3.out.cell 1
  have o2 : W3.cell? ⟨g3 + 1, 2, none⟩ = some (.int .i64 0) := HX3.out.cell 2
  go_wp2_with (go_at_call 3; refine (runs_any _).mono ?_; rintro e w6 ⟨rfl, hB6⟩)
  go_ret
  exact ⟨rfl, hA3.trans (hB6.mono hz3)⟩
set_option maxHeartbeats 8000000 in
set_option maxRecDepth 100000 in
theorem num_zero (a b s K M : Int) (w : World) (a0 : 0 ≤ a) (a1 : a ≤ 4294967295) (b0 : 0 ≤ b) (b1 : b ≤ 4294967295) (s0 : -9223372036854775808 ≤ s) (s1 : s ≤ 9223372036854775807) (hk : wit s 1 2147483647 = K) (hM : a % 2147483648 = M) (hp : M = 0) :
    Calls Try.prog 9 #[.int .u32 a, .int .u32 b, .int .i64 s] w fun e w' => e = .returned (.bool true) ∧ Below w.heap.size w w' := by
  have k0 : 1 ≤ K := by rw [← hk]; exact wit_lo s 1 2147483647 (by decide)
  have k1 : K ≤ 2147483647 := by rw [← hk]; exact wit_hi s 1 2147483647 (by decide)
  have M0 : 0 ≤ M := by omega
  have M1 : M ≤ 2147483647 := by omega
  have HBA := Lib.hid (b4_byt a a0 a1)
  have HBB := Lib.hid (b4_byt b b0 b1)
  have HO1 := Lib.hid (n_reset K a k0 k1 a0 a1)
  have ho3 := n_away a b a0 a1 b0 b1
  rw [hM] at ho3
  have HO3 := Lib.hid ho3
  clear ho3
  have ho2 := n_wind0 K a k0 k1 a0 a1 (by omega)
  have HO2 := Lib.hid ho2
  clear ho2
  have hKn : (K == 0) = false := by simp; omega
  have hMz : (M == 0) = true := by simp [hp]
  clear hp
  have hmore := andNot_top a a0 a1
  rw [hM] at hmore
  have HM := Lib.hid hM
  clear hM
  obtain ⟨i0, hi, hz0, hz1, hz2⟩ := info_parts info5
  go_enter Try.func9, Try.ntmps9
  go_upto_region 4 with (first | (go_at_call 17; refine (wit_any _ _ _ _ (by decide) (by decide) (by decide) (by omega) (by omega)).mono ?_; rintro e w0 ⟨rfl, rfl⟩; rw [hk]) | (go_at_call 18; refine (four_mk _ _ (by omega) (by omega)).mono ?_; rintro e v ⟨rfl, rfl⟩) | (go_at_call 10; refine (of_is 3 0 K _ (b4 a) _ (bs_lit w (b4 a) (by show 4 ≤ 1000; decide) _ (by first | rfl | go_size)) HBA.out _ _ _ _ _ _ _ _ _ _ _ _ _ _ _ HO1).mono ?_; rintro e w1 ⟨⟨Ab1, cb1, As1, cs1, rfl, -, -⟩, hB1⟩; have hD1 : Below w.heap.size w w1 := Below.trans (below_self _ (.cells (bv (b4 a)).toArray 5)) (hB1.mono (Nat.le_of_lt (lt_alloc _ _))); have hE1 := hD1.size))
  refine wp_forget (fun W => Below w.heap.size w W ∧ w1.heap.size + 1 < W.heap.size ∧ Hid (Blk W w1.heap.size 26 #[.int .i64 3, .int .i64 K, .bool false, .bool false, .bool false, .slice Ab1 0 cb1, .int .i64 a, .int .i64 0, .int .i64 0, .int .i64 0, .slice As1 0 cs1]) ∧ Hid (Blk W (w1.heap.size + 1) 28 #[.int .i64 0, .int .i64 0, .int .i64 0])) ⟨by go_grown, by go_size, Lib.hid ((Blk.new _ _ _).alloc _), Lib.hid (Blk.new_at (by go_size))⟩ ?_
  rintro W1 ⟨hA1, hl1, HP1, HX1⟩
  clear hB1 hD1 hE1 hk
  generalize w1.heap.size = g1 at *
  have hy1 := hA1.size
  go_upto_region 5 with (first | (go_at_call 18; refine (four_mk _ _ (by omega) (by omega)).mono ?_; rintro e v ⟨rfl, rfl⟩) | (go_at_call 10; refine (of_is 8 0 K _ (b4 a) _ (bs_lit W1 (b4 a) (by show 4 ≤ 1000; decide) _ (by first | rfl | go_size)) HBA.out _ _ _ _ _ _ _ _ _ _ _ _ _ _ _ HO2).mono ?_; rintro e w2 ⟨⟨Ab2, cb2, As2, cs2, rfl, -, -⟩, hB2⟩; have hD2 : Below W1.heap.size W1 w2 := Below.trans (below_self _ (.cells (bv (b4 a)).toArray 5)) (hB2.mono (Nat.le_of_lt (lt_alloc _ _))); have hE2 := hD2.size))
  have hP12 := HP1.out.below hD2 (by omega)
  have hX12 := HX1.out.below hD2 (by omega)
  refine wp_forget (fun W => Below w.heap.size w W ∧ w2.heap.size + 1 < W.heap.size ∧ g1 + 1 < W.heap.size ∧ Hid (Blk W g1 26 #[.int .i64 3, .int .i64 K, .bool false, .bool false, .bool false, .slice Ab1 0 cb1, .int .i64 a, .int .i64 0, .int .i64 0, .int .i64 0, .slice As1 0 cs1]) ∧ Hid (Blk W (g1 + 1) 28 #[.int .i64 0, .int .i64 0, .int .i64 0]) ∧ Hid (Blk W w2.heap.size 26 #[.int .i64 0, .int .i64 0, .bool false, .bool false, .bool false, .slice Ab2 0 cb2, .int .i64 0, .int .i64 0, .int .i64 0, .int .i64 0, .slice As2 0 cs2]) ∧ Hid (Blk W (w2.heap.size + 1) 28 #[.int .i64 1, .int .i64 1, .int .i64 K])) ⟨hA1.trans ((hD2.mono (by omega)).trans (by go_grown)), by go_size, by simp only [World.size_alloc]; omega, Lib.hid ((hP12.alloc _).alloc _), Lib.hid ((hX12.alloc _).alloc _), Lib.hid ((Blk.new _ _ _).alloc _), Lib.hid (Blk.new_at (by go_size))⟩ ?_
  clear hP12 hX12 HP1 HX1 hA1 hl1
  rintro W2 ⟨hA2, hl2, hl1, HP1, HX1, HP2, HX2⟩
  clear hB2 hD2 hE2
  generalize w2.heap.size = g2 at *
  have hy2 := hA2.size
  go_upto_region 6 with (first
    | (go_at_call 18; refine (four_mk _ _ (by omega) (by omega)).mono ?_; rintro e v ⟨rfl, rfl⟩)
    | (at_builtin
       refine wpList_append_src rfl (.tmp 40) (.tmp 43) 22 rfl W2.heap.size 5 i0 _ 1 1 Try.underlying22 hi hz0 hz1 hz2 rfl (by decide) (.slice (some ⟨W2.heap.size, 0, none⟩) 4 4) 4 (bv (b4 a)) rfl ((World.ownsRow_lit (base := W2.heap.size) W2 (bv (b4 a)).toArray 4 (Nat.le_refl _) (by decide) rfl).alloc _) (some ⟨W2.heap.size + 1, 0, none⟩) 4 4 (bv (b4 b)) rfl (fun h => by cases h) rfl (fun ad h => by cases h; exact news_at _ _ _) (bv_one _) ?a4 ?a5 ?a6 ?_
       (case a4 => unfold maxLen; omega)
       (case a5 => omega)
       (case a6 => simp only [World.size_alloc]; omega)
       intro va wa hown1 hg1
       have hBa : Below W2.heap.size W2 wa := Below.grown (((below_self W2 _).alloc (by simp only [World.size_alloc]; omega) _)) hg1 (by simp only [World.size_alloc]; omega) (by intro q hq; simp [Value.ownBlock] at hq; omega)
       rw [bv_app] at hown1
       have hBS := bs_own hown1 rfl
       obtain ⟨Av, cv, rfl⟩ := own_form hown1
       have hBas := hBa.size
       clear hg1 hown1)
    | (go_at_call 10; refine (of_is 7 0 0 _ (b4 a ++ b4 b) _ hBS (byt_app HBA.out HBB.out) _ _ _ _ _ _ _ _ _ _ _ _ _ _ _ HO3).mono ?_; rintro e w3 ⟨⟨Ab3, cb3, As3, cs3, rfl, -, -⟩, hB3⟩; have hD3 : Below W2.heap.size W2 w3 := hBa.trans (hB3.mono hBas); have hE3 := hD3.size))
  have hP1 := HP1.out.below hD3 (by omega)
  have hX1 := HX1.out.below hD3 (by omega)
  have hP2 := HP2.out.below hD3 (by omega)
  have hX2 := HX2.out.below hD3 (by omega)
  refine wp_forget (fun W => Below w.heap.size w W ∧ Hid (Blk W g1 26 #[.int .i64 3, .int .i64 K, .bool false, .bool false, .bool false, .slice Ab1 0 cb1, .int .i64 a, .int .i64 0, .int .i64 0, .int .i64 0, .slice As1 0 cs1]) ∧ Hid (Blk W (g1 + 1) 28 #[.int .i64 0, .int .i64 0, .int .i64 0]) ∧ Hid (Blk W g2 26 #[.int .i64 0, .int .i64 0, .bool false, .bool false, .bool false, .slice Ab2 0 cb2, .int .i64 0, .int .i64 0, .int .i64 0, .int .i64 0, .slice As2 0 cs2]) ∧ Hid (Blk W (g2 + 1) 28 #[.int .i64 1, .int .i64 1, .int .i64 K]) ∧ Hid (Blk W w3.heap.size 26 #[.int .i64 7, .int .i64 0, .bool false, .bool false, .bool false, .slice Ab3 0 cb3, .int .i64 b, .int .i64 M, .int .i64 0, .int .i64 0, .slice As3 0 cs3]) ∧ Hid (Blk W (w3.heap.size + 1) 28 #[.int .i64 0, .int .i64 0, .int .i64 0])) ⟨hA2.trans ((hD3.mono (by omega)).trans (by go_grown)), Lib.hid ((hP1.alloc _).alloc _), Lib.hid ((hX1.alloc _).alloc _), Lib.hid ((hP2.alloc _).alloc _), Lib.hid ((hX2.alloc _).alloc _), Lib.hid ((Blk.new _ _ _).alloc _), Lib.hid (Blk.new_at (by go_size))⟩ ?_
  clear hP1 hX1 hP2 hX2 HP1 HX1 HP2 HX2 hA2
  rintro W3 ⟨hA3, HP1, HX1, HP2, HX2, HP3, HX3⟩
  clear hB3 hD3 hE3 hBS hBa hBas
  generalize w3.heap.size = g3 at *
  have hz3 := hA3.size
  have pa : W3.cell? ⟨g1, 6, none⟩ = some (.int .i64 a) := HP1.out.cell 6
  have pb : W3.cell? ⟨g2, 8, none⟩ = some (.int .i64 0) := HP2.out.cell 8
  have pc : W3.cell? ⟨g3, 6, none⟩ = some (.int .i64 b) := HP3.out.cell 6
  have pd : W3.cell? ⟨g3, 7, none⟩ = some (.int .i64 M) := HP3.out.cell 7
  have q0 : W3.cell? ⟨g1 + 1, 0, none⟩ = some (.int .i64 0) := HX1.out.cell 0
  have q1 : W3.cell? ⟨g1 + 1, 1, none⟩ = some (.int .i64 0) := HX1.out.cell 1
  have q2 : W3.cell? ⟨g1 + 1, 2, none⟩ = some (.int .i64 0) := HX1.out.cell 2
  have r0 : W3.cell? ⟨g2 + 1, 0, none⟩ = some (.int .i64 1) := HX2.out.cell 0
  have r1 : W3.cell? ⟨g2 + 1, 1, none⟩ = some (.int .i64 1) := HX2.out.cell 1
  have r2 : W3.cell? ⟨g2 + 1, 2, none⟩ = some (.int .i64 K) := HX2.out.cell 2
  have o0 : W3.cell? ⟨g3 + 1, 0, none⟩ = some (.int .i64 0) := HX3.out.cell 0
  have o1 : W3.cell? ⟨g3 + 1, 1, none⟩ = some (.int .i64 0) := HX3.out.cell 1
  have o2 : W3.cell? ⟨g3 + 1, 2, none⟩ = some (.int .i64 0) := HX3.out.cell 2
  go_wp2_with (go_at_call 3; refine (runs_any _).mono ?_; rintro e w6 ⟨rfl, hB6⟩)
  go_ret
  exact ⟨rfl, hA3.trans (hB6.mono hz3)⟩
theorem numbers_any (a b s : Int) (w : World) (a0 : 0 ≤ a) (a1 : a ≤ 4294967295) (b0 : 0 ≤ b) (b1 : b ≤ 4294967295) (s0 : -9223372036854775808 ≤ s) (s1 : s ≤ 9223372036854775807) :
    Calls Try.prog 9 #[.int .u32 a, .int .u32 b, .int .i64 s] w fun e w' => e = .returned (.bool true) ∧ Below w.heap.size w w' := by
  by_cases hp : 0 < a % 2147483648
  · exact num_pos a b s _ _ w a0 a1 b0 b1 s0 s1 rfl rfl hp
  · exact num_zero a b s _ _ w a0 a1 b0 b1 s0 s1 rfl rfl (by omega)
end Go.Proofs.Ytolpfbdklcjlkaa
