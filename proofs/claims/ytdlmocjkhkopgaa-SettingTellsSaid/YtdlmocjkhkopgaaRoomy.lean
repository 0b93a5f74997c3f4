/- Roomy, Intact and Same over settings. -/
import Derived.Test.YtdlmocjkhkopgaaParts0
import Derived.Test.YtdlmocjkhkopgaaCopy
namespace Go.Proofs.Ytdlmocjkhkopgaa
open Go.ChangeShapes Go.WideShapes Go.ChangeAt Go.RowKit
set_option linter.unusedVariables false
set_option linter.unusedSimpArgs false

/-- What Roomy holds when it has come to k. -/
def roomZ (Z : Nat → Nat → Int) (m0 m1 : Int) (n k : Nat) : Nat → Nat → Int := fun i j => if i < n then Z i j else if i < k then (if j = 0 then m0 else m1) else 0
theorem pairs_take (Y Z : Nat → Nat → Int) (n m : Nat) (h : ∀ i j, i < n → Y i j = Z i j) (hm : n ≤ m) : pairsOf Y n ++ (pairsOf Z m).drop (n * 2) = pairsOf Z m := by
  apply List.ext_getElem?
  intro q
  by_cases h1 : q < n * 2
  · rw [List.getElem?_append_left (by rw [pairsOf_len]; exact h1), pairsOf_get _ _ _ h1, pairsOf_get _ _ _ (by omega), h _ _ (by omega)]
  · rw [List.getElem?_append_right (by rw [pairsOf_len]; omega), pairsOf_len, List.getElem?_drop, show n * 2 + (q - n * 2) = q by omega]
theorem pairs_ext (Y Z : Nat → Nat → Int) (n : Nat) (h : ∀ i j, i < n → j < 2 → Y i j = Z i j) : pairsOf Y n = pairsOf Z n := by
  apply List.ext_getElem?
  intro q
  by_cases h1 : q < n * 2
  · rw [pairsOf_get _ _ _ h1, pairsOf_get _ _ _ h1, h _ _ (by omega) (by omega)]
  · rw [List.getElem?_eq_none (by rw [pairsOf_len]; omega), List.getElem?_eq_none (by rw [pairsOf_len]; omega)]
theorem pairs_put (Z : Nat → Nat → Int) (m0 m1 : Int) (n k : Nat) (h1 : n ≤ k) (h2 : k < n + 80) :
    ((pairsOf (roomZ Z m0 m1 n k) (n + 80)).set (k * 2) (.int .i64 m0)).set (k * 2 + 1) (.int .i64 m1) = pairsOf (roomZ Z m0 m1 n (k + 1)) (n + 80) := by
  apply List.ext_getElem?
  intro q
  rw [List.getElem?_set, List.getElem?_set]
  simp only [List.length_set, pairsOf_len]
  by_cases hq : q < (n + 80) * 2
  · rw [pairsOf_get _ _ _ hq, pairsOf_get _ _ _ hq]
    by_cases e1 : k * 2 + 1 = q
    · subst e1
      rw [if_pos rfl, if_pos hq]
      simp only [roomZ]
      rw [if_neg (by omega), if_pos (by omega), if_neg (by omega)]
    · rw [if_neg e1]
      by_cases e0 : k * 2 = q
      · subst e0
        rw [if_pos rfl, if_pos hq]
        simp only [roomZ]
        rw [if_neg (by omega), if_pos (by omega), if_pos (by omega)]
      · rw [if_neg e0]
        simp only [roomZ]
        by_cases c : q / 2 < n
        · rw [if_pos c, if_pos c]
        · rw [if_neg c, if_neg c]
          by_cases c2 : q / 2 < k
          · rw [if_pos c2, if_pos (show q / 2 < k + 1 by omega)]
          · rw [if_neg c2, if_neg (show ¬ q / 2 < k + 1 by omega)]
  · rw [if_neg (by omega), if_neg (by omega), List.getElem?_eq_none (by rw [pairsOf_len]; omega), List.getElem?_eq_none (by rw [pairsOf_len]; omega)]
theorem made_pairs (n : Nat) : (madeCells (Value.agg #[.int .i64 0, .int .i64 0]).cells (n * 2)).toList = pairsOf (fun _ _ => 0) n := by
  apply List.ext_getElem?
  intro q
  by_cases hq : q < n * 2
  · rw [pairsOf_get _ _ _ hq]
    simp [madeCells, Value.cells, hq]
    rcases (show q % 2 = 0 ∨ q % 2 = 1 by omega) with h | h <;> simp [h]
  · rw [List.getElem?_eq_none (by simp [madeCells]; omega), List.getElem?_eq_none (by rw [pairsOf_len]; omega)]

theorem own_blk {w : World} {B g n : Nat} {e : TypeId} {sz : Nat} {xs : List Value} (h : w.ownsRow B e sz (.slice (some ⟨g, 0, none⟩) n n) n xs) : Blk w g e xs.toArray := by
  rcases h.2 with ⟨h', _⟩ | ⟨g', cap, cur, h', _, hh, _, _, hs, ht⟩
  · simp at h'
  · simp only [Value.slice.injEq, Option.some.injEq, Addr.mk.injEq, and_true, true_and] at h'
    obtain ⟨rfl, rfl⟩ := h'
    have : cur.toList = xs := by rw [← ht, List.take_of_length_le (by simp; omega)]
    rw [← this]
    simpa [Blk] using hh

set_option maxHeartbeats 1000000 in
set_option maxRecDepth 100000 in
theorem roomy_any (m0 m1 : Int) (v : Value) (n : Nat) (Z : Nat → Nat → Int) (w : World) (hR : Rowy w v n 2 (fun i j => .int .i64 (Z i j))) (hn : n ≤ 1000) :
    Calls Try.prog 14 #[v, .agg #[.int .i64 m0, .int .i64 m1]] w fun e w' => ∃ g : Nat, w.heap.size ≤ g ∧ e = .returned (.slice (some ⟨g, 0, none⟩) (n + 80) (n + 80)) ∧
      Blk w' g 29 (pairsOf (roomZ Z m0 m1 n (n + 80)) (n + 80)).toArray ∧ Below w.heap.size w w' := by
  have HR := Lib.hid hR
  obtain ⟨A, cap, rfl, hk, hm, -⟩ := hR
  obtain ⟨i0, hi, hz0, hz1, hz2⟩ := info_parts info29
  have hsz : (Try.prog.info? 29).map (·.size) = some 2 := by rw [hi]; simp [hz1]
  go_enter Try.func14, Try.ntmps14
  go_wp2_with (first
    | (refine wpList_make_full _ rfl (.tmp 9) (.tmp 9) 30 rfl w.heap.size 29 i0 _ 2 Try.underlying30 hi hz0 hz1 .i64 .i64 _ _ (n + 80) rfl rfl (by omega) (by omega) (by rw [hz2]; omega) (by unfold maxLen; omega) (by go_size) ?_
       intro w1 hown hg1
       have hb1 := own_blk hown
       rw [made_pairs] at hb1
       simp only [World.size_alloc] at hb1
       have hB1 : Below w.heap.size w w1 := Below.grown (by go_grown) hg1 (by go_size) (fun g hg => by cases hg)
       have hbox : Blk w1 w.heap.size 29 #[.int .i64 m0, .int .i64 m1] := (Blk.new _ _ _).grown hg1 (by simp)
       have hs1 := hg1.size
       simp only [World.size_alloc] at hs1
       clear hown hg1)
    | (refine wpList_copy_k rfl (.tmp 11) (.tmp 12) 30 30 rfl 29 2 Try.underlying30 hsz _ _ _ A n cap rfl rfl _ 29 hb1 (pairsOf Z n) (by rw [pairsOf_len]; congr 1; exact (Nat.min_eq_left (by omega)).symm) (rowy_src (HR.out.below hB1 (Nat.le_refl _))).1 (rowy_src (HR.out.below hB1 (Nat.le_refl _))).2 (by simp only [List.size_toArray, pairsOf_len]; omega) (pairs_one _ _) ?_
       intro w2 hb2 hg2 hs2
       have hB2 : Below w.heap.size w w2 := hB1.grown hg2 (by omega) (fun g hg => by cases hg; omega)
       have hbox2 : Blk w2 w.heap.size 29 #[.int .i64 m0, .int .i64 m1] := hbox.grown hg2 (by simp)
       clear hg2))
  have hb3 : Blk w2 (w.heap.size + 1) 29 (pairsOf (roomZ Z m0 m1 n n) (n + 80)).toArray := by
    unfold Blk
    rw [hb2, pairsOf_len]
    rw [pairs_ext (fun _ _ => 0) (roomZ (fun _ _ => 0) 0 0 0 0) (n + 80) (fun i j _ _ => by simp [roomZ])]
    rw [show (pairsOf (roomZ Z m0 m1 n n) (n + 80)) = pairsOf Z n ++ (pairsOf (roomZ Z m0 m1 n n) (n + 80)).drop (n * 2) from (pairs_take Z _ n _ (fun i j h => by simp [roomZ, h]) (by omega)).symm]
    congr 4
    apply List.ext_getElem?
    intro q
    rw [List.getElem?_drop, List.getElem?_drop]
    by_cases hq : n * 2 + q < (n + 80) * 2
    · rw [pairsOf_get _ _ _ hq, pairsOf_get _ _ _ hq]
      simp only [roomZ, if_neg (show ¬ (n * 2 + q) / 2 < n by omega), if_neg (show ¬ (n * 2 + q) / 2 < 0 by omega)]
    · rw [List.getElem?_eq_none (by rw [pairsOf_len]; omega), List.getElem?_eq_none (by rw [pairsOf_len]; omega)]
  clear hb1 hb2 hbox hB1
  go_loopw [6] (fun i wr => ∃ k : Nat, n ≤ k ∧ k ≤ n + 80 ∧ i = .int .i64 k ∧ Blk wr (w.heap.size + 1) 29 (pairsOf (roomZ Z m0 m1 n k) (n + 80)).toArray ∧ Blk wr w.heap.size 29 #[.int .i64 m0, .int .i64 m1] ∧ Below w.heap.size w wr) (fun i _ => n + 80 - (intOf i).toNat)
  case atStart => exact ⟨n, Nat.le_refl _, by omega, rfl, hb3, hbox2, hB2⟩
  case round =>
    obtain ⟨k, h1, h2, rfl, hG, hX, hB⟩ := hrel
    have hG' := Lib.hid hG
    have hX' := Lib.hid hX
    have hgl := hG.lt
    by_cases hlt : k < n + 80
    · have x0 : wr.cell? ⟨w.heap.size, 0, none⟩ = some (.int .i64 m0) := hX.cell 0
      have x1 : wr.cell? ⟨w.heap.size, 1, none⟩ = some (.int .i64 m1) := hX.cell 1
      obtain ⟨u0, e0⟩ : ∃ u, wr.cell? ⟨w.heap.size + 1, k * 2, none⟩ = some u := ⟨_, (hG.cell _).trans (by rw [List.getElem?_toArray, pairsOf_get _ _ _ (by omega)])⟩
      obtain ⟨u1, e1⟩ : ∃ u, wr.cell? ⟨w.heap.size + 1, k * 2 + 1, none⟩ = some u := ⟨_, (hG.cell _).trans (by rw [List.getElem?_toArray, pairsOf_get _ _ _ (by omega)])⟩
      have f0 : wr.frozen? ⟨w.heap.size + 1, k * 2, none⟩ = false := hG.frozen _
      have f1 : wr.frozen? ⟨w.heap.size + 1, k * 2 + 1, none⟩ = false := hG.frozen _
      have hki : (k : Int) < (n : Int) + 80 := by omega
      have hk0 : 0 ≤ (k : Int) := by omega
      clear hG hX
      go_wp2_with fail
      go_roundw
      case rel =>
        refine ⟨k + 1, by omega, by omega, by go_num, ?_, ?_, ?_⟩
        · have := (hG'.out.put (k * 2) (.int .i64 m0)).put (k * 2 + 1) (.int .i64 m1)
          simp only [List.setIfInBounds_toArray] at this
          rwa [pairs_put _ _ _ _ _ h1 hlt] at this
        · exact (hX'.out.far (by simp) _).far (by simp) _
        · go_grown
      case measure => simp [intOf]; omega
    · obtain rfl : k = n + 80 := by omega
      clear hG hX
      go_wp2_with fail
      go_ret
      exact ⟨w.heap.size + 1, by omega, rfl, hG'.out, hB⟩
end Go.Proofs.Ytdlmocjkhkopgaa
