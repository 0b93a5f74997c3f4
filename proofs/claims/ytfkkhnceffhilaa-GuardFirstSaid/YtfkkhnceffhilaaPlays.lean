/- Same over numbers; a row of steps that is short. -/
import Derived.Test.YtfkkhnceffhilaaPlay
import Derived.Test.YtfkkhnceffhilaaMusts
import Derived.BigQuiet
import Derived.Laws.OwnMore
import Derived.Lib.QuietBelow
namespace Go.Proofs.Ytfkkhnceffhilaa
open Go.ChangeShapes Go.WideShapes Go.ChangeAt Go.RowKit
set_option linter.unusedVariables false
set_option linter.unusedSimpArgs false

theorem below_drewN {B : Nat} {a w : World} (h : Below B a w) (n : Nat) : Below B a (w.drewN n) := ⟨h.os, h.tape, h.output, h.size, h.block⟩
set_option maxHeartbeats 1000000 in
theorem samei_true (v1 v2 : Value) (n : Nat) (Z : Nat → Int) (w : World) (h1 : Rowy w v1 n 1 (fun i _ => .int .i64 (Z i))) (h2 : Rowy w v2 n 1 (fun i _ => .int .i64 (Z i))) :
    Calls Try.prog 27 #[v1, v2] w fun e w' => e = .returned (.bool true) ∧ Below w.heap.size w w' := by
  obtain ⟨A1, c1, rfl, l1, m1, k1⟩ := h1
  obtain ⟨A2, c2, rfl, l2, m2, k2⟩ := h2
  have K1 := Lib.hid k1
  have K2 := Lib.hid k2
  clear k1 k2
  unfold maxLen at m1 m2
  go_enter Try.func27, Try.ntmps27
  go_wp2
  go_loopw [5] (fun i wr => ∃ k : Nat, k ≤ n ∧ i = .int .i64 k ∧ Below w.heap.size w wr) (fun i _ => n - (intOf i).toNat)
  case atStart => exact ⟨0, Nat.zero_le _, rfl, Below.refl _ _⟩
  case round =>
    obtain ⟨k, hk, rfl, hB⟩ := hrel
    by_cases hlt : k < n
    · obtain ⟨b1, o1, rfl, g1, q1⟩ := K1.out (by omega)
      obtain ⟨b2, o2, rfl, g2, q2⟩ := K2.out (by omega)
      have e1 : wr.cell? ⟨b1, o1 + k, none⟩ = some (.int .i64 (Z k)) := by rw [hB.cell (p := ⟨b1, _, none⟩) g1]; simpa using q1 k 0 hlt (by omega)
      have e2 : wr.cell? ⟨b2, o2 + k, none⟩ = some (.int .i64 (Z k)) := by rw [hB.cell (p := ⟨b2, _, none⟩) g2]; simpa using q2 k 0 hlt (by omega)
      have hki : (k : Int) < (n : Int) := by omega
      have hk0 : 0 ≤ (k : Int) := by omega
      clear q1 q2
      generalize Z k = z at *
      go_wp2_with fail
      go_quiet (fail)
      go_wp2_with fail
      go_roundw
      case rel => exact ⟨k + 1, by omega, by go_num, below_drewN hB _⟩
      case measure => simp [intOf]; omega
    · go_wp2_with fail
      go_ret
      exact ⟨rfl, hB⟩


theorem own_rowy {w : World} {B : Nat} {S : List Nat} {r : Value} {L : List Int} (h : Own w B S r L) : Rowy w r L.length 1 (fun i _ => .int .i64 (L.getD i 0)) :=
  rowy_own1 h.row fun i hi => by simp [iv, hi]
theorem same_any (w : World) (B B' : Nat) (S S' : List Nat) (r r' : Value) (L : List Int) (h : Own w B S r L) (h' : Own w B' S' r' L) : Calls Try.prog 27 #[r, r'] w fun e w' => e = .returned (.bool true) ∧ Below w.heap.size w w' :=
  samei_true r r' L.length (fun i => L.getD i 0) w (own_rowy h) (own_rowy h')
theorem Own.below {w w1 : World} {B : Nat} {S : List Nat} {r : Value} {L : List Int} (h : Own w B S r L) (hb : Below w.heap.size w w1) : Own w1 B S r L :=
  h.kept (X := fun k => w.heap.size ≤ k) (Kept.of_below hb fun _ _ hk => hk) fun k hk hx => by have := (h.row.lt k hk).2; omega
/-- The first of them. -/
def cut (L : List Act) (m : Nat) : List Act := L.take m
theorem cut_len (L : List Act) (m : Nat) : (cut L m).length ≤ m := by unfold cut; simp; omega
theorem cut_ok {L : List Act} (h : AOk L) (m : Nat) : AOk (cut L m) := fun x hx => h x (List.mem_of_mem_take hx)
set_option maxHeartbeats 4000000 in
theorem short_any (w0 w : World) (v : Value) (L : List Act) (h : AS w0 v L) : Calls Try.prog 28 #[v] w fun e w' => (∃ A cap, e = .returned (.slice A (cut L 12).length cap) ∧ AS w0 (.slice A (cut L 12).length cap) (cut L 12)) ∧ w = w' := by
  obtain ⟨A, cap, rfl, h1, h2⟩ := as_form h
  have HA := Lib.hid h
  obtain ⟨n, hn⟩ : ∃ n, L.length = n := ⟨_, rfl⟩
  rw [hn] at HA h1 ⊢
  by_cases hl : 12 < n
  · obtain ⟨hs, hA'⟩ := run_to HA.out 12 (by omega) 12 rfl
    have hc : (cut L 12).length = 12 := by unfold cut; simp; omega
    have H2 := Lib.hid hA'
    have HC := Lib.hid hc
    have hl' : (12 : Int) < (n : Int) := by omega
    clear h hA' hc hn
    go_enter Try.func28, Try.ntmps28
    go_wp2
    go_ret
    exact ⟨⟨A, cap, by rw [HC.out]; rfl, by rw [HC.out]; exact H2.out⟩, rfl⟩
  · have hc : cut L 12 = L := by unfold cut; exact List.take_of_length_le (by omega)
    have HC := Lib.hid hc
    have HN := Lib.hid hn
    have hl' : ¬ (12 : Int) < (n : Int) := by omega
    clear h hc hn
    go_enter Try.func28, Try.ntmps28
    go_wp2
    go_ret
    exact ⟨⟨A, cap, by rw [HC.out, HN.out]; rfl, by rw [HC.out, HN.out]; exact HA.out⟩, rfl⟩
/-- A function that plays the row that a variable holds. -/
theorem run25 (W0 : World) (c b1 n cap : Nat) (A : Option Addr) (L : List Act) (ns : List Int) (h : How) (hc : W0.heap.size ≤ c) (hb : Blk W0 b1 32 #[.slice A n cap]) (hn : L.length = n) (hA : AS W0 (.slice A n cap) L) (hok : AOk L) (hl : n ≤ 40) (hT : Told L ns h) :
    Runs c 25 #[.pointer (some ⟨b1, 0, none⟩), .pointer (some ⟨c, 0, none⟩)] (PlayP W0 c []) (fun h' S X => h' = h ∧ PlayP W0 c ns S X) := by
  intro S X hSX hP
  have hb' := hb.below hP.2.1 (by have := hb.lt; omega)
  have c0 : X.cell? ⟨b1, 0, none⟩ = some (.slice A n cap) := hb'.cell 0
  have hp := play_any W0 c hc 100 L A cap S X [] ns h (by omega) (by omega) (by rw [hn]; exact hA) hok hP hSX (by simp; omega) hT
  rw [hn] at hp
  have HP := Lib.hid hp
  clear hp hb' hb hA hT
  go_enter Try.func25, Try.ntmps25
  go_wp2_with fail
  refine HP.out.mono ?_
  rintro e w' ⟨he, hk', hp'⟩
  have H1 := Lib.hid hk'
  have H3 := Lib.hid hp'
  clear hk' hp'
  cases h with
  | fine =>
    obtain rfl := he
    go_wp2_with fail
    go_end0
    exact ⟨.fine, rfl, H1.out, rfl, H3.out⟩
  | fault c' a' =>
    obtain ⟨l, rfl, hl⟩ := he
    exact ⟨rfl, .fault c' a', ⟨l, rfl, hl⟩, H1.out, rfl, H3.out⟩
  | other =>
    obtain ⟨x, l, rfl, hl⟩ := he
    exact ⟨rfl, .other, ⟨x, l, rfl, hl⟩, H1.out, rfl, H3.out⟩
theorem own_at {W W1 : World} {B : Nat} {S : List Nat} {r : Value} {L : List Int} (h : Own W B S r L) : ∃ A cap, r = .slice A L.length cap := h.form
set_option maxHeartbeats 8000000 in
set_option maxRecDepth 100000 in
theorem plays_any (A : Option Addr) (cap : Nat) (L : List Act) (w : World) (hA : AS w (.slice A L.length cap) L) (hok : AOk L) :
    Calls Try.prog 4 #[.slice A L.length cap] w fun e w' => e = .returned (.bool true) ∧ Below w.heap.size w w' := by
  have hm := hmf
  obtain ⟨n, hn⟩ : ∃ n, L.length = n := ⟨_, rfl⟩
  obtain ⟨n2, hn2⟩ : ∃ n2, (cut L 40).length = n2 := ⟨_, rfl⟩
  have hn40 : n2 ≤ 40 := by rw [← hn2]; exact cut_len L 40
  have hA2 : AS w (.slice A n2 cap) (cut L 40) := by
    have h1 := as_take hA n2 (by rw [← hn2]; unfold cut; simp; omega)
    have : L.take n2 = cut L 40 := by rw [← hn2]; unfold cut; simp
    rwa [this] at h1
  have hcut : n2 = min 40 n := by rw [← hn2, ← hn]; unfold cut; simp
  have hsl := fun (h40 : 40 < n) => (run_to hA 40 (by omega) 40 rfl).1
  rw [hn] at hA hsl ⊢
  have HOK := Lib.hid (cut_ok hok 40)
  have HA2 := Lib.hid hA2
  have HN2 := Lib.hid hn2
  have HSL := Lib.hid hsl
  clear hA hok hA2 hn hn2 hsl
  have hn0 : (0 : Int) ≤ (n : Int) := by omega
  by_cases h40 : 40 < n
  · obtain rfl : n2 = 40 := by omega
    have hsl := HSL.out h40
    have h40' : (40 : Int) < (n : Int) := by omega
    clear h40 hcut
    go_enter Try.func4, Try.ntmps4
    go_upto_region 3 with fail
    refine wp_forget (fun X => Hid (Kept (fun _ => False) w X) ∧ w.heap.size + 1 = X.heap.size ∧ Hid (Blk X w.heap.size 32 #[.slice A 40 cap])) ⟨Lib.hid ((Kept.refl _ w).alloc _), by simp only [World.size_alloc], Lib.hid (Blk.new _ _ _)⟩ ?_
    rintro X ⟨HKX, hXs, HBX⟩
    have x0 : X.cell? ⟨w.heap.size, 0, none⟩ = some (.slice A 40 cap) := HBX.out.cell 0
    have ht := told_any w w.heap.size (Nat.le_refl _) 100 (cut L 40) A cap [w.heap.size] X (.slice none 0 0) [] (by rw [HN2.out]; omega) (by omega) (by rw [HN2.out]; exact HA2.out) HOK.out (HKX.out.below (fun _ _ h => h.elim) (Nat.le_refl _)) (Own.nil _ _ _) (by simp; omega) (by rw [HN2.out]; show 0 + 3 * _ ≤ 10000; omega) (by omega)
    rw [HN2.out] at ht
    have HT := Lib.hid ht
    clear ht
    go_wp2_with fail
    refine HT.out.mono ?_
    rintro e w1 ⟨ns, h, r', rfl, hT, hO, hK⟩
    obtain ⟨A1, c1', rfl⟩ := hO.form
    have HTT := Lib.hid hT
    have hB1 : Below w.heap.size w w1 := (HKX.out.below (fun _ _ h => h.elim) (Nat.le_refl _)).trans (hK.low (by omega))
    have hb1 := hK.blk HBX.out (fun hx => hx.2 (by simp))
    have HB1 := Lib.hid hB1
    have HBB := Lib.hid hb1
    have HO := Lib.hid hO
    have hs1 := hK.size
    obtain ⟨x, hx⟩ : ∃ x, (num3 h).1 = x := ⟨_, rfl⟩
    obtain ⟨y, hy⟩ : ∃ y, (num3 h).2.1 = y := ⟨_, rfl⟩
    obtain ⟨z, hz⟩ : ∃ z, (num3 h).2.2 = z := ⟨_, rfl⟩
    have hE : endV h = .agg #[.int .i64 x, .int .i64 y, .int .i64 z] := by unfold endV; rw [hx, hy, hz]
    rw [hE]
    have HEV := Lib.hid hE
    clear hT hB1 hb1 hO hK hx hy hz hE x0
    simp only [List.nil_append] at HO
    go_upto_region 4 with fail
    refine wp_forget (fun X4 => Hid (Below w.heap.size w X4) ∧ w1.heap.size + 1 = X4.heap.size ∧ Hid (Blk X4 w.heap.size 32 #[.slice A 40 cap]) ∧ Hid (Own X4 w.heap.size [w.heap.size] (.slice A1 ns.length c1') ns) ∧ Hid (Blk X4 w1.heap.size 35 #[.int .i64 x, .int .i64 y, .int .i64 z])) ⟨Lib.hid (HB1.out.alloc (by omega) _), by simp only [World.size_alloc], Lib.hid (HBB.out.alloc _), Lib.hid (HO.out.kept ((Kept.refl (fun _ => False) w1).alloc _) (fun _ _ h => h)), Lib.hid (Blk.new _ _ _)⟩ ?_
    rintro X4 ⟨HB4, hX4, HBL, HO4, HE4⟩
    have hPP : PlayP X4 X4.heap.size [] [] (X4.alloc (.cells #[.slice none 0 0] 33)) := ⟨⟨_, Blk.new _ _ _, by simp, Own.nil _ _ _⟩, (Below.refl _ _).alloc (Nat.le_refl _) _, by simp⟩
    have hcg := caught_good (c := X4.heap.size) (playP_good X4 X4.heap.size []) (fun h' => good_and (good_const _) (playP_good X4 X4.heap.size ns)) (by intro X; simp [go_sem]) (run25 X4 X4.heap.size w.heap.size 40 cap A (cut L 40) ns h (Nat.le_refl _) HBL.out HN2.out (HA2.out.below HB4.out (Nat.le_refl _)) HOK.out (by omega) HTT.out) [] (X4.alloc (.cells #[.slice none 0 0] 33)) (by simp) hPP
    have HCG := Lib.hid hcg
    clear hPP hcg
    go_wp2_with fail
    refine HCG.out.mono ?_
    rintro e w5 ⟨h', hce, hk5, rfl, hp5⟩
    unfold CaughtEnd at hce
    rw [HEV.out] at hce
    subst hce
    obtain ⟨⟨r5, hb5, _, ho5⟩, hbl5, _⟩ := hp5
    have hE5 := HE4.out.below hbl5 HE4.out.lt
    have hO5 := HO4.out.below hbl5
    have hw5 : Below w.heap.size w w5 := HB4.out.trans (hbl5.mono (by omega))
    have HB5 := Lib.hid hb5
    have HO5 := Lib.hid hO5
    have HOO5 := Lib.hid ho5
    have HW5 := Lib.hid hw5
    have hs5 := hbl5.size
    have hlE := hE5.lt
    have hlC := hb5.lt
    have e0 : w5.cell? ⟨w1.heap.size, 0, none⟩ = some (.int .i64 x) := hE5.cell 0
    have e1 : w5.cell? ⟨w1.heap.size, 1, none⟩ = some (.int .i64 y) := hE5.cell 1
    have e2 : w5.cell? ⟨w1.heap.size, 2, none⟩ = some (.int .i64 z) := hE5.cell 2
    have ec : w5.cell? ⟨X4.heap.size, 0, none⟩ = some r5 := hb5.cell 0
    obtain ⟨A5, c5, rfl⟩ := ho5.form
    have hws5 := hw5.size
    clear hk5 hb5 ho5 hbl5 hE5 hO5 hw5
    go_wp2_with (first
      | (go_at_call 27; refine (same_any _ _ _ _ _ _ _ ns (HOO5.out.kept ((Kept.refl (fun _ => False) w5).alloc _) (fun _ _ h => h)) (HO5.out.kept ((Kept.refl (fun _ => False) w5).alloc _) (fun _ _ h => h))).mono ?_; rintro e w6 ⟨rfl, hb6⟩; have hB6 : Below w.heap.size w w6 := (HW5.out.alloc (by omega) _).trans (hb6.mono (by simp only [World.size_alloc]; omega)); have hs6 := hB6.size)
      | (go_at_call 3; refine (runs_any _).mono ?_; rintro e w7 ⟨rfl, hb7⟩; have hB7 : Below w.heap.size w w7 := hB6.trans (hb7.mono hs6)))
    go_ret
    exact ⟨rfl, hB7⟩
  · obtain rfl : n2 = n := by omega
    have h40' : ¬ (40 : Int) < (n2 : Int) := by omega
    clear h40 hcut
    go_enter Try.func4, Try.ntmps4
    go_upto_region 3 with fail
    refine wp_forget (fun X => Hid (Kept (fun _ => False) w X) ∧ w.heap.size + 1 = X.heap.size ∧ Hid (Blk X w.heap.size 32 #[.slice A n2 cap])) ⟨Lib.hid ((Kept.refl _ w).alloc _), by simp only [World.size_alloc], Lib.hid (Blk.new _ _ _)⟩ ?_
    rintro X ⟨HKX, hXs, HBX⟩
    have x0 : X.cell? ⟨w.heap.size, 0, none⟩ = some (.slice A n2 cap) := HBX.out.cell 0
    have ht := told_any w w.heap.size (Nat.le_refl _) 100 (cut L 40) A cap [w.heap.size] X (.slice none 0 0) [] (by rw [HN2.out]; omega) (by omega) (by rw [HN2.out]; exact HA2.out) HOK.out (HKX.out.below (fun _ _ h => h.elim) (Nat.le_refl _)) (Own.nil _ _ _) (by simp; omega) (by rw [HN2.out]; show 0 + 3 * _ ≤ 10000; omega) (by omega)
    rw [HN2.out] at ht
    have HT := Lib.hid ht
    clear ht
    go_wp2_with fail
    refine HT.out.mono ?_
    rintro e w1 ⟨ns, h, r', rfl, hT, hO, hK⟩
    obtain ⟨A1, c1', rfl⟩ := hO.form
    have HTT := Lib.hid hT
    have hB1 : Below w.heap.size w w1 := (HKX.out.below (fun _ _ h => h.elim) (Nat.le_refl _)).trans (hK.low (by omega))
    have hb1 := hK.blk HBX.out (fun hx => hx.2 (by simp))
    have HB1 := Lib.hid hB1
    have HBB := Lib.hid hb1
    have HO := Lib.hid hO
    have hs1 := hK.size
    obtain ⟨x, hx⟩ : ∃ x, (num3 h).1 = x := ⟨_, rfl⟩
    obtain ⟨y, hy⟩ : ∃ y, (num3 h).2.1 = y := ⟨_, rfl⟩
    obtain ⟨z, hz⟩ : ∃ z, (num3 h).2.2 = z := ⟨_, rfl⟩
    have hE : endV h = .agg #[.int .i64 x, .int .i64 y, .int .i64 z] := by unfold endV; rw [hx, hy, hz]
    rw [hE]
    have HEV := Lib.hid hE
    clear hT hB1 hb1 hO hK hx hy hz hE x0
    simp only [List.nil_append] at HO
    go_upto_region 4 with fail
    refine wp_forget (fun X4 => Hid (Below w.heap.size w X4) ∧ w1.heap.size + 1 = X4.heap.size ∧ Hid (Blk X4 w.heap.size 32 #[.slice A n2 cap]) ∧ Hid (Own X4 w.heap.size [w.heap.size] (.slice A1 ns.length c1') ns) ∧ Hid (Blk X4 w1.heap.size 35 #[.int .i64 x, .int .i64 y, .int .i64 z])) ⟨Lib.hid (HB1.out.alloc (by omega) _), by simp only [World.size_alloc], Lib.hid (HBB.out.alloc _), Lib.hid (HO.out.kept ((Kept.refl (fun _ => False) w1).alloc _) (fun _ _ h => h)), Lib.hid (Blk.new _ _ _)⟩ ?_
    rintro X4 ⟨HB4, hX4, HBL, HO4, HE4⟩
    have hPP : PlayP X4 X4.heap.size [] [] (X4.alloc (.cells #[.slice none 0 0] 33)) := ⟨⟨_, Blk.new _ _ _, by simp, Own.nil _ _ _⟩, (Below.refl _ _).alloc (Nat.le_refl _) _, by simp⟩
    have hcg := caught_good (c := X4.heap.size) (playP_good X4 X4.heap.size []) (fun h' => good_and (good_const _) (playP_good X4 X4.heap.size ns)) (by intro X; simp [go_sem]) (run25 X4 X4.heap.size w.heap.size n2 cap A (cut L 40) ns h (Nat.le_refl _) HBL.out HN2.out (HA2.out.below HB4.out (Nat.le_refl _)) HOK.out (by omega) HTT.out) [] (X4.alloc (.cells #[.slice none 0 0] 33)) (by simp) hPP
    have HCG := Lib.hid hcg
    clear hPP hcg
    go_wp2_with fail
    refine HCG.out.mono ?_
    rintro e w5 ⟨h', hce, hk5, rfl, hp5⟩
    unfold CaughtEnd at hce
    rw [HEV.out] at hce
    subst hce
    obtain ⟨⟨r5, hb5, _, ho5⟩, hbl5, _⟩ := hp5
    have hE5 := HE4.out.below hbl5 HE4.out.lt
    have hO5 := HO4.out.below hbl5
    have hw5 : Below w.heap.size w w5 := HB4.out.trans (hbl5.mono (by omega))
    have HB5 := Lib.hid hb5
    have HO5 := Lib.hid hO5
    have HOO5 := Lib.hid ho5
    have HW5 := Lib.hid hw5
    have hs5 := hbl5.size
    have hlE := hE5.lt
    have hlC := hb5.lt
    have e0 : w5.cell? ⟨w1.heap.size, 0, none⟩ = some (.int .i64 x) := hE5.cell 0
    have e1 : w5.cell? ⟨w1.heap.size, 1, none⟩ = some (.int .i64 y) := hE5.cell 1
    have e2 : w5.cell? ⟨w1.heap.size, 2, none⟩ = some (.int .i64 z) := hE5.cell 2
    have ec : w5.cell? ⟨X4.heap.size, 0, none⟩ = some r5 := hb5.cell 0
    obtain ⟨A5, c5, rfl⟩ := ho5.form
    have hws5 := hw5.size
    clear hk5 hb5 ho5 hbl5 hE5 hO5 hw5
    go_wp2_with (first
      | (go_at_call 27; refine (same_any _ _ _ _ _ _ _ ns (HOO5.out.kept ((Kept.refl (fun _ => False) w5).alloc _) (fun _ _ h => h)) (HO5.out.kept ((Kept.refl (fun _ => False) w5).alloc _) (fun _ _ h => h))).mono ?_; rintro e w6 ⟨rfl, hb6⟩; have hB6 : Below w.heap.size w w6 := (HW5.out.alloc (by omega) _).trans (hb6.mono (by simp only [World.size_alloc]; omega)); have hs6 := hB6.size)
      | (go_at_call 3; refine (runs_any _).mono ?_; rintro e w7 ⟨rfl, hb7⟩; have hB7 : Below w.heap.size w w7 := hB6.trans (hb7.mono hs6)))
    go_ret
    exact ⟨rfl, hB7⟩
end Go.Proofs.Ytfkkhnceffhilaa
