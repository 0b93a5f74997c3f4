/- PintBack. -/
import Derived.Test.YtembmiopfkopeaaMore
import Derived.Deep.RegionHeld3
namespace Go.Proofs.Ytembmiopfkopeaa
open Go.ChangeShapes Go.WideShapes Go.ChangeAt Go.RowKit
set_option linter.unusedVariables false
set_option linter.unusedSimpArgs false

theorem put_byt {k t x : Int} (h1 : 1 ≤ k) (h2 : k ≤ 8) (x0 : 0 ≤ x) (x1 : x ≤ 2147483647) (t0 : 0 ≤ t) (t1 : t ≤ 255) : Byt (putL k t x) := fun y hy => by
  have hp := pw_bounds h1 h2
  have hd : 0 ≤ t / pw k * pw k ∧ t / pw k * pw k + pw k ≤ 256 := by
    rcases pw_cases h1 h2 with ⟨rfl, e⟩ | ⟨rfl, e⟩ | ⟨rfl, e⟩ | ⟨rfl, e⟩ | ⟨rfl, e⟩ | ⟨rfl, e⟩ | ⟨rfl, e⟩ | ⟨rfl, e⟩ <;> rw [e] <;> omega
  by_cases h : x < pw k - 1
  · rw [put_small h1 h2 x0 x1 h] at hy
    obtain rfl : y = t / pw k * pw k + x := by simpa using hy
    omega
  · rw [put_big h1 h2 x0 x1 h] at hy
    rcases List.mem_cons.1 hy with rfl | hy
    · omega
    · exact tailJ_byt 12 _ _ (by omega) (by simp; omega) y hy
theorem byt_app {L M : List Int} (h : Byt L) (h' : Byt M) : Byt (L ++ M) := fun y hy => by
  rcases List.mem_append.1 hy with hy | hy
  · exact h y hy
  · exact h' y hy
/-- The first byte that is put. -/
theorem put_head {k t x : Int} (h1 : 1 ≤ k) (h2 : k ≤ 8) (x0 : 0 ≤ x) (x1 : x ≤ 2147483647) : ∃ d M, putL k t x = d :: M ∧ d / pw k = t / pw k := by
  have hp := pw_bounds h1 h2
  by_cases h : x < pw k - 1
  · exact ⟨_, _, put_small h1 h2 x0 x1 h, head_div (by omega) x0 (by omega)⟩
  · exact ⟨_, _, put_big h1 h2 x0 x1 h, head_div (by omega) (by omega) (by omega)⟩

set_option maxHeartbeats 2000000 in
set_option maxRecDepth 100000 in
theorem back_k (va vb : Value) (A B : List Int) (k x : Int) (n t v cut : Int) (w : World) (hk : wit n 1 8 = k) (hx : wit v 0 2147483647 = x) (hRA : BS w va A) (hRB : BS w vb B) (hYA : Byt A) (hYB : Byt B) (lA : A.length ≤ 1048576) (lB : B.length ≤ 1048576)
    (n1 : -9223372036854775808 ≤ n) (n2 : n ≤ 9223372036854775807) (t1 : 0 ≤ t) (t2 : t ≤ 255) (v1 : -9223372036854775808 ≤ v) (v2 : v ≤ 9223372036854775807) (q1 : -9223372036854775808 ≤ cut) (q2 : cut ≤ 9223372036854775807) :
    Calls Try.prog 6 #[va, vb, .int .i64 n, .int .u8 t, .int .i64 v, .int .i64 cut] w fun e w' => e = .returned (.bool true) ∧ Below w.heap.size w w' := by
  have k1 := wit_lo n 1 8 (by decide)
  have k2 := wit_hi n 1 8 (by decide)
  have x1 := wit_lo v 0 2147483647 (by decide)
  have x2 := wit_hi v 0 2147483647 (by decide)
  rw [hk] at k1 k2
  rw [hx] at x1 x2
  obtain ⟨i0, hi, hz0, hz1, hz2⟩ := info_parts info5
  have hpl := put_len (t := t) k1 k2 x1 x2
  have htl := tl_le (x - (pw k - 1))
  have hpx : 1 ≤ (putL k t x).length ∧ (putL k t x).length ≤ 6 := by rw [hpl]; refine ⟨?_, ?_⟩ <;> split <;> omega
  clear hpl htl
  have hget := get_put A B (t := t) k1 k2 x1 x2
  have hcut := Lib.hid (get_cut A (t := t) k1 k2 x1 x2)
  obtain ⟨d, M, hdM, hdd⟩ := put_head (t := t) k1 k2 x1 x2
  have hPY := put_byt k1 k2 x1 x2 t1 t2
  generalize hP : putL k t x = P at *
  obtain ⟨px1, px2⟩ := hpx
  have HRA := Lib.hid hRA
  have HRB := Lib.hid hRB
  have HYB := Lib.hid (byt_app (byt_app hYA hPY) hYB)
  have HYA := Lib.hid (byt_app hYA hPY)
  obtain ⟨AA, capA, rfl, hkA, hmA, -⟩ := hRA
  obtain ⟨AB, capB, rfl, hkB, hmB, -⟩ := hRB
  clear hYA hYB hPY
  unfold maxLen at hmA hmB
  have hmin : min k.toNat 8 = k.toNat := by omega
  have hpk : (2 : Int) ^ k.toNat = pw k := rfl
  have htk : (A ++ P).take A.length = A := List.take_left
  have hgd : (A ++ P).getD A.length 0 = d := by
    have := get_head (A := A) (M := M) (B := []) (c := d)
    rw [List.append_nil, ← hdM] at this
    exact this
  go_enter Try.func6, Try.ntmps6
  go_upto_region 4 with (first
    | (go_at_call 18; refine (wit_any _ _ _ _ (by decide) (by decide) (by decide) (by omega) (by omega)).mono ?_; rintro e w1 ⟨rfl, rfl⟩; first | rw [hk] | rw [hx])
    | (go_at_call 11; refine (put_any _ A _ _ _ _ HRA.out (by omega) (by omega) (by omega) (by omega) (by omega) (by omega) (by omega)).mono ?_; rintro e w1 ⟨r1, rfl, ho1, hB1⟩; rw [hP] at ho1))
  have hs1 := hB1.size
  obtain ⟨g, cap, rfl, hgB, hcap⟩ : ∃ g cap, r1 = .slice (some ⟨g, 0, none⟩) (A ++ P).length cap ∧ w.heap.size ≤ g ∧ (A ++ P).length ≤ cap := by
    rcases ho1.2 with ⟨-, h0⟩ | ⟨g, cap, cur, h, hgB, -, hlc, -, -, -⟩
    · simp only [List.length_append] at h0; omega
    · exact ⟨g, cap, h, hgB, hlc⟩
  have hgl := (ho1.lt g rfl).2
  have e0 : w1.cell? ⟨g, A.length, none⟩ = some (.int .u8 d) := by
    have := ho1.cellAt A.length (by simp only [List.length_append]; omega)
    rw [this, bv_get _ _ (by simp only [List.length_append]; omega), hgd]
  have HBS := Lib.hid (bs_own ho1 rfl)
  clear ho1 hgd
  have hlen : (A ++ P).length = A.length + P.length := List.length_append
  have htt : (A ++ P).take (A ++ P).length = A ++ P := List.take_length
  generalize hD : A ++ P = D at *
  clear hD htt
  generalize hna : A.length = na at *
  generalize hnp : P.length = np at *
  generalize hnd : D.length = nd at *
  rw [← hlen] at hget hcut
  have y1 : nd ≤ na + np := by omega
  have y2 : na + np ≤ nd := by omega
  clear hlen
  have z1 : ¬ (nd : Int) ≤ (na : Int) := by omega
  have z2 : (na : Int) ≤ (cap : Int) := by omega
  have z3 : 0 ≤ (na : Int) := by omega
  have z4 : (na : Int) < (nd : Int) := by omega
  have z5 : na < nd := by omega
  have z6 : na ≤ cap := by omega
  have z7 : ¬ nd ≤ na := by omega
  have z8 : 0 ≤ k := by omega
  obtain ⟨tq, htq⟩ : ∃ tq, t / pw k = tq := ⟨_, rfl⟩
  rw [htq] at hdd
  go_upto_region 4 with fail
  go_region_held3 (fun w' => w'.cell? ⟨g, na, none⟩ = some (.int .u8 d)) (first | exact (d3 g na (by simpa using hgl)).trans e0 | exact (d3 g na (by simpa using hgl)).trans (by simpa using e0) | exact e0 | go_simp) (first
    | (go_at_call 10; refine (same_eq _ _ (D.take na) A _ (bs_take (HBS.out.below (by go_grown) (Nat.le_refl _)) (by omega)) (HRA.out.below (Below.trans hB1 (by go_grown)) (Nat.le_refl _)) htk).mono ?_; rintro e w3 ⟨rfl, hB3⟩; obtain ⟨d3, f3⟩ := bcell hB3; have s3 : g < w3.heap.size := Nat.lt_of_lt_of_le (by go_simp) hB3.size))
  have hC3 : Below w1.heap.size w1 w3 := Below.trans (by go_grown) (hB3.mono (by simp only [World.size_drew]; omega))
  have hc3 := hC3.size
  have hA3 : Below w.heap.size w w3 := Below.trans hB1 (hC3.mono hs1)
  have hw3 := hA3.size
  have HOm := Lib.hid (World.ownsRow_made (base := w3.heap.size) (e := 5) (size := 1) w3 #[] 0 (Nat.le_refl _) (by unfold maxLen; omega) rfl)
  have HBSa := Lib.hid (HBS.out.below (w' := w3.alloc (.cells #[] 5)) (Below.trans hC3 (by go_grown)) (Nat.le_refl _))
  have hAm : Below w.heap.size w (w3.alloc (.cells #[] 5)) := by go_grown
  have hm3 := hAm.size
  generalize hnb : B.length = nb at *
  clear e0 d3 f3 hB3
  go_upto_region 7 with (first
    | (at_builtin
       refine wpList_append_src rfl (.tmp 61) (.tmp 62) 23 rfl w3.heap.size 5 i0 _ 1 1 Try.underlying23 hi hz0 hz1 hz2 rfl (by decide) _ (0 + nd) ([] ++ bv D) rfl hown4 AB nb capB (bv B) rfl (bs_src (HRB.out.below hA4 (Nat.le_refl _))).2.1 (by rw [bv_len, hnb, Nat.mul_one]) (bs_src (HRB.out.below hA4 (Nat.le_refl _))).2.2 (bv_one _) (by unfold maxLen; omega) (by omega) (by go_size) ?_
       intro v5 w5 hown5 hg5
       have hC5 : Below w3.heap.size w3 w5 := Below.grown hC4 hg5 hc4 (fun g' hg => (hown4.lt g' hg).1)
       have hA5 : Below w.heap.size w w5 := Below.trans hA3 (hC5.mono hw3)
       have hw5 := hA5.size
       have hc5 := hC5.size
       rw [List.nil_append, bv_app, Nat.zero_add] at hown5
       have HBS5 := Lib.hid (bs_own hown5 (by rw [List.length_append]; omega)))
    | (at_builtin
       refine wpList_append_src rfl (.tmp 59) (.tmp 60) 23 rfl w3.heap.size 5 i0 _ 1 1 Try.underlying23 hi hz0 hz1 hz2 rfl (by decide) _ 0 [] rfl HOm.out _ nd cap (bv D) rfl (bs_src HBSa.out).2.1 (by rw [bv_len, hnd, Nat.mul_one]) (bs_src HBSa.out).2.2 (bv_one _) (by unfold maxLen; omega) (by omega) (by go_size) ?_
       intro v4 w4 hown4 hg4
       have hC4 : Below w3.heap.size w3 w4 := Below.grown (w := _) (by go_grown) hg4 (by go_size) (fun g' hg => (HOm.out.lt g' hg).1)
       have hA4 : Below w.heap.size w w4 := Below.trans hA3 (hC4.mono hw3)
       have hw4 := hA4.size
       have hc4 := hC4.size)
    | (go_at_call 16; refine (get_any _ (D ++ B) _ _ _ HBS5.out HYB.out (by omega) (by omega) (by omega) (by omega)).mono ?_; rintro e w6 ⟨rfl, hB6⟩; rw [hget]))
  have hA6 : Below w.heap.size w w6 := Below.trans hA5 (hB6.mono hw5)
  have hw6 := hA6.size
  have HBS6 : Hid (BS w6 (.slice (some ⟨g, 0, none⟩) nd cap) D) := Lib.hid (HBS.out.below (Below.trans hC3 ((Below.trans hC5 (hB6.mono hc5)).mono hc3)) (Nat.le_refl _))
  have c1 := wit_lo cut na (nd - 1) (by omega)
  have c2 := wit_hi cut na (nd - 1) (by omega)
  obtain ⟨c, hc⟩ := Int.eq_ofNat_of_zero_le (show 0 ≤ wit cut na (nd - 1) by omega)
  rw [hc] at c1 c2
  have hgc := hcut.out c (by omega) (by omega)
  have z9 : c ≤ cap := by omega
  have z10 : (c : Int) ≤ (cap : Int) := by omega
  have z11 : 0 ≤ (c : Int) := by omega
  clear hcut hget
  go_wp2_with (first
    | (go_at_call 18; refine (wit_any _ _ _ _ (by omega) (by omega) (by omega) (by omega) (by omega)).mono ?_; rintro e w7 ⟨rfl, rfl⟩; rw [hc])
    | (go_at_call 16; refine (get_any _ (D.take c) _ _ _ (bs_take HBS6.out (by omega)) (fun y hy => HYA.out y (List.mem_of_mem_take hy)) (by omega) (by omega) (by omega) (by omega)).mono ?_; rintro e w7 ⟨rfl, hB7⟩; rw [hgc]; have hA7 : Below w.heap.size w w7 := Below.trans hA6 (hB7.mono hw6); have hw7 := hA7.size)
    | (go_at_call 3; refine (runs_any _).mono ?_; rintro e w8 ⟨rfl, hB8⟩; have hA8 : Below w.heap.size w w8 := Below.trans hA7 (hB8.mono hw7)))
  go_ret
  exact ⟨rfl, hA8⟩
end Go.Proofs.Ytembmiopfkopeaa
