/- The contract of window.Least and of reservoirbook.Within. -/
import Derived.Test.YthkkdhjippnkfaaKit
namespace Go.Proofs.Ythkkdhjippnkfaa
open Go.ChangeShapes Go.WideShapes Go.ChangeAt Go.RowKit
set_option linter.unusedVariables false

theorem ret_int {k : IntKind} {a b : Int} (h : a = b) : Ending.returned (.int k a) = .returned (.int k b) := by rw [h]

def leastOfAll (n : Int) (ls : List Int) : Int := ls.foldl min n
theorem leastOfAll_take (n : Int) (ls : List Int) (k : Nat) (h : k < ls.length) : leastOfAll n (ls.take (k + 1)) = min (leastOfAll n (ls.take k)) (ls.getD k 0) := by
  unfold leastOfAll
  rw [List.take_add_one, List.foldl_append]
  simp [List.getD, List.getElem?_eq_getElem h]
theorem leastOfAll_len (n : Int) (ls : List Int) (k : Nat) (h : k = ls.length) : leastOfAll n (ls.take k) = leastOfAll n ls := by
  subst h; rw [List.take_length]

set_option maxHeartbeats 400000 in
theorem least_any (n : Int) (b off cap : Nat) (ls : List Int) (w : World) (hlen : ls.length ≤ 9223372036854775807)
    (hc : ∀ k, k < ls.length → w.cell? ⟨b, off + k, none⟩ = some (.int .i64 (ls.getD k 0))) (hb : b < w.heap.size) :
    Calls Try.prog 15 #[.int .i64 n, .slice (some ⟨b, off, none⟩) ls.length cap] w fun e w' => e = .returned (.int .i64 (max (leastOfAll n ls) 0)) ∧ Below w.heap.size w w' := by
  have HC := Lib.hid hc
  clear hc
  go_enter Try.func15, Try.ntmps15
  go_wp2
  go_loopw [0, 9] (fun m i wr => ∃ k : Nat, k ≤ ls.length ∧ i = .int .i64 k ∧ m = .int .i64 (leastOfAll n (ls.take k)) ∧ Below w.heap.size w wr) (fun _ i _ => ls.length - (intOf i).toNat)
  case atStart => exact ⟨0, Nat.zero_le _, rfl, rfl, Below.refl _ _⟩
  case round =>
    obtain ⟨k, hk, rfl, rfl, hB⟩ := hrel
    have hBs : w.heap.size ≤ wr.heap.size := hB.size
    by_cases hlt : k < ls.length
    · have hcell : wr.cell? ⟨b, off + k, none⟩ = some (.int .i64 (ls.getD k 0)) := by
        rw [hB.cell (p := ⟨b, off + k, none⟩) hb]; exact HC.out k hlt
      have HS := Lib.hid (leastOfAll_take n ls k hlt)
      generalize ls.getD k 0 = x at *
      generalize leastOfAll n (ls.take k) = y at *
      have hx : min y x = if y ≤ x then y else x := by omega
      go_wp2
      all_goals
        go_roundw
        case rel => exact ⟨k + 1, by omega, by go_num, by rw [HS.out]; first | rfl | (congr 1; omega), by go_grown⟩
        case measure => simp [intOf]; omega
    · have hl := leastOfAll_len n ls k (by omega)
      have HL := Lib.hid hl
      clear hl
      generalize leastOfAll n (ls.take k) = y at *
      go_wp2
      all_goals
        go_ret
        refine ⟨?_, hB⟩
        rw [← HL.out]
        first | rfl | (refine ret_int ?_; omega)


theorem least_none (n : Int) (a : Option Addr) (cap : Nat) (w : World) :
    Calls Try.prog 15 #[.int .i64 n, .slice a 0 cap] w fun e w' => e = .returned (.int .i64 (max n 0)) ∧ Below w.heap.size w w' := by
  go_enter Try.func15, Try.ntmps15
  go_wp2
  go_loop [0, 9] (fun m i => i = .int .i64 0 ∧ m = .int .i64 n) (fun _ _ => 0)
  case atStart => exact ⟨rfl, rfl⟩
  case round =>
    obtain ⟨rfl, rfl⟩ := hrel
    go_wp2
    all_goals
      go_ret
      exact ⟨ret_int (by omega), Below.refl _ _⟩

/-- 'Within': n brought into lo to hi. -/
def wit (n lo hi : Int) : Int := lo + n % (hi - lo + 1)
theorem wit_lo (n lo hi : Int) (h : lo ≤ hi) : lo ≤ wit n lo hi := by
  unfold wit; have := Int.emod_nonneg n (show hi - lo + 1 ≠ 0 by omega); omega
theorem wit_hi (n lo hi : Int) (h : lo ≤ hi) : wit n lo hi ≤ hi := by
  unfold wit; have := Int.emod_lt_of_pos n (show 0 < hi - lo + 1 by omega); omega
theorem tmod_pos (n d : Int) (h : 0 ≤ n) : n.tmod d = n % d := Int.tmod_eq_emod_of_nonneg h
theorem tmod_neg (n d : Int) (h : n < 0) (hd : 0 < d) : (n.tmod d = 0 ∧ n % d = 0) ∨ (n.tmod d < 0 ∧ n.tmod d + d = n % d ∧ 0 ≤ n.tmod d + d) := by
  have h1 := Int.emod_nonneg n (show d ≠ 0 by omega)
  have h2 := Int.emod_lt_of_pos n hd
  rw [Int.tmod_eq_emod]
  split
  · rename_i h3; rcases h3 with h3 | h3
    · omega
    · left; have := Int.emod_eq_zero_of_dvd h3; omega
  · rename_i h3
    right
    have : n % d ≠ 0 := fun e => h3 (.inr (Int.dvd_of_emod_eq_zero e))
    omega
set_option maxHeartbeats 400000 in
theorem wit_any (n lo hi : Int) (w : World) (h0 : 0 ≤ lo) (h1 : lo ≤ hi) (h2 : hi ≤ 4294967296) (h3 : -9223372036854775808 ≤ n) (h4 : n ≤ 9223372036854775807) :
    Calls Try.prog 17 #[.int .i64 n, .int .i64 lo, .int .i64 hi] w fun e w' => e = .returned (.int .i64 (wit n lo hi)) ∧ w = w' := by
  have a1 := wit_lo n lo hi h1
  have a2 := wit_hi n lo hi h1
  unfold wit at *
  by_cases h : 0 ≤ n
  · have a3 := Int.emod_nonneg n (show hi - lo + 1 ≠ 0 by omega)
    have a4 := Int.emod_lt_of_pos n (show 0 < hi - lo + 1 by omega)
    have h5 : ¬ (hi - lo + 1 = 0) := by omega
    go_enter Try.func17, Try.ntmps17
    go_wp2
    go_ret
    exact ⟨rfl, rfl⟩
  · have h5 : ¬ (hi - lo + 1 = 0) := by omega
    have h6 : n < 0 := by omega
    rcases tmod_neg n (hi - lo + 1) h6 (by omega) with ⟨b1, b2⟩ | ⟨b1, b2, b3⟩
    · have B2 := Lib.hid b2
      have B1 := Lib.hid b1
      have b3 : 0 ≤ n.tmod (hi - lo + 1) := by omega
      have b4 : n.tmod (hi - lo + 1) ≤ 0 := by omega
      clear b1 b2
      go_enter Try.func17, Try.ntmps17
      go_wp2
      go_ret
      refine ⟨ret_int ?_, rfl⟩
      rw [B2.out, B1.out]
    · have B2 := Lib.hid b2
      have b4 : n.tmod (hi - lo + 1) + (hi - lo + 1) ≤ hi - lo := by omega
      clear b2
      go_enter Try.func17, Try.ntmps17
      go_wp2
      go_ret
      refine ⟨ret_int ?_, rfl⟩
      rw [← B2.out]
      try omega
theorem wit_ex (n lo hi : Int) (w : World) (h0 : 0 ≤ lo) (h1 : lo ≤ hi) (h2 : hi ≤ 4294967296) (h3 : -9223372036854775808 ≤ n) (h4 : n ≤ 9223372036854775807) :
    Calls Try.prog 17 #[.int .i64 n, .int .i64 lo, .int .i64 hi] w fun e w' => ∃ x : Int, lo ≤ x ∧ x ≤ hi ∧ e = .returned (.int .i64 x) ∧ w = w' :=
  (wit_any n lo hi w h0 h1 h2 h3 h4).mono fun _ _ ⟨a, b⟩ => ⟨_, wit_lo n lo hi h1, wit_hi n lo hi h1, a, b⟩
/-- A world is put behind a letter, of which only P is kept. -/
theorem wp_forget {P : Program} {c : Code} {Q : Exit → Act → World → Prop} {a : Act} {w : World} (K : World → Prop) (hK : K w) (h : ∀ W, K W → c.wp P Q a W) : c.wp P Q a w := h w hK
theorem least_two (n : Int) (x y : Int) (b cap : Nat) (w : World) (hb : b < w.heap.size) (h0 : w.cell? ⟨b, 0, none⟩ = some (.int .i64 x)) (h1 : w.cell? ⟨b, 1, none⟩ = some (.int .i64 y)) :
    Calls Try.prog 15 #[.int .i64 n, .slice (some ⟨b, 0, none⟩) 2 cap] w fun e w' => e = .returned (.int .i64 (max (min (min n x) y) 0)) ∧ Below w.heap.size w w' := by
  refine (least_any n b 0 cap [x, y] w (by simp) (fun k hk => ?_) hb).mono fun e w' h => h
  match k, hk with
  | 0, _ => exact h0
  | 1, _ => exact h1
theorem least_three (n : Int) (x y z : Int) (b cap : Nat) (w : World) (hb : b < w.heap.size) (h0 : w.cell? ⟨b, 0, none⟩ = some (.int .i64 x)) (h1 : w.cell? ⟨b, 1, none⟩ = some (.int .i64 y)) (h2 : w.cell? ⟨b, 2, none⟩ = some (.int .i64 z)) :
    Calls Try.prog 15 #[.int .i64 n, .slice (some ⟨b, 0, none⟩) 3 cap] w fun e w' => e = .returned (.int .i64 (max (min (min (min n x) y) z) 0)) ∧ Below w.heap.size w w' := by
  refine (least_any n b 0 cap [x, y, z] w (by simp) (fun k hk => ?_) hb).mono fun e w' h => h
  match k, hk with
  | 0, _ => exact h0
  | 1, _ => exact h1
  | 2, _ => exact h2
end Go.Proofs.Ythkkdhjippnkfaa
