/- SettingRuns returns true, in whatever world. -/
import Derived.Test.YtdlmocjkhkopgaaApply
import Derived.Test.YtdlmocjkhkopgaaPut
namespace Go.Proofs.Ytdlmocjkhkopgaa
open Go.ChangeShapes Go.WideShapes Go.ChangeAt Go.RowKit
set_option linter.unusedVariables false
set_option linter.unusedSimpArgs false

def Zr : Nat → Nat → Int := fun i j => ([[4, 0], [1, 4294967295]].getD i []).getD j 0
def firstS : S5 := ⟨4096, 2147483647, 65535, 16384, 2147483647⟩
theorem ansr : Ans Zr firstS 2 ⟨2147483647, 2147483647, 0, 16384, 2147483647⟩ 0 :=
  .inl ⟨fun j hj => by
    match j, hj with
    | 0, _ => decide
    | 1, _ => decide, by simp [ap, upd, Zr, firstS, clamp]; decide, rfl⟩
theorem rowy_lit2 (ls : List (List Int)) (w : World) (b cap : Nat) (hcap : ls.length ≤ cap) (hcap2 : cap ≤ 1000) (hb : b < w.heap.size) (h : ∀ i j, i < ls.length → j < 2 → w.cell? ⟨b, i * 2 + j, none⟩ = some (.int .i64 ((ls.getD i []).getD j 0))) :
    Rowy w (.slice (some ⟨b, 0, none⟩) ls.length cap) ls.length 2 (fun i j => .int .i64 ((ls.getD i []).getD j 0)) :=
  ⟨_, _, rfl, hcap, by unfold maxLen; omega, fun _ => ⟨b, 0, rfl, hb, fun i j hi hj => by rw [Nat.zero_add]; exact h i j hi hj⟩⟩
theorem rowy_own {w : World} {B n : Nat} {v : Value} {L : List Int} (h : w.ownsRow B 5 1 v n (u8s L)) (hl : L.length = n) (hn : n ≤ 100000) : Rowy w v n 1 (fun i _ => .int .u8 (L.getD i 0)) := by
  have hlt := h.lt
  rcases h.2 with ⟨rfl, rfl⟩ | ⟨g, cap, cur, rfl, hB, hh, hkc, hm, hs, ht⟩
  · exact ⟨_, _, rfl, Nat.le_refl _, Nat.zero_le _, fun h => absurd h (Nat.lt_irrefl _)⟩
  · refine ⟨_, _, rfl, hkc, hm, fun _ => ⟨g, 0, rfl, (hlt g rfl).2, fun i j hi hj => ?_⟩⟩
    obtain rfl : j = 0 := by omega
    have := h.cellAt i (by omega)
    simp only [Nat.zero_add, Nat.mul_one, Nat.add_zero]
    rw [this]
    simp [u8s, List.getD, List.getElem?_eq_getElem (show i < L.length by omega)]
theorem rowy_lit1 (ls : List Int) (w : World) (b cap : Nat) (hcap : ls.length ≤ cap) (hcap2 : cap ≤ 1000) (hb : b < w.heap.size) (h : ∀ i, i < ls.length → w.cell? ⟨b, i, none⟩ = some (.int .u8 (ls.getD i 0))) :
    Rowy w (.slice (some ⟨b, 0, none⟩) ls.length cap) ls.length 1 (fun i _ => .int .u8 (ls.getD i 0)) :=
  ⟨_, _, rfl, hcap, by unfold maxLen; omega, fun _ => ⟨b, 0, rfl, hb, fun i j hi hj => by
    obtain rfl : j = 0 := by omega
    simpa using h i hi⟩⟩
def Zp : Nat → Nat → Int := fun i j => ([[5, 16384]].getD i []).getD j 0

set_option maxHeartbeats 4000000 in
set_option maxRecDepth 100000 in
theorem runs_any (w : World) : Calls Try.prog 3 #[] w fun e w' => e = .returned (.bool true) ∧ Below w.heap.size w w' := by
  go_enter Try.func3, Try.ntmps3
  go_wp2_with (go_at_call 10; refine (first_any _).mono ?_; rintro e w1 ⟨rfl, rfl⟩; unfold agg5)
  refine (apply_any firstS _ 2 Zr _ (rowy_lit2 [[4, 0], [1, 4294967295]] _ _ _ (by decide) (by decide) ?_ ?_) ?_).mono ?_
  · go_simp
  · intro i j hi hj
    match i, hi, j, hj with
    | 0, _, 0, _ => go_simp
    | 0, _, 1, _ => go_simp
    | 1, _, 0, _ => go_simp
    | 1, _, 1, _ => go_simp
  · intro i j hi hj
    match i, hi, j, hj with
    | 0, _, 0, _ => decide
    | 0, _, 1, _ => decide
    | 1, _, 0, _ => decide
    | 1, _, 1, _ => decide
  rintro e w1 ⟨r, c, hans, rfl, hB1⟩
  obtain ⟨rfl, rfl⟩ := hans.one ansr
  clear hans
  unfold agg5
  have hB1s := hB1.size
  simp only [World.size_alloc] at hB1s
  have hBw : Below w.heap.size w w1 := Below.trans (by go_grown) (hB1.mono (by simp only [World.size_alloc]; omega))
  clear hB1
  go_wp2_with (first
    | (go_at_call 10; refine (first_any _).mono ?_; rintro e w1 ⟨rfl, rfl⟩; unfold agg5)
    | (go_at_call 11; refine (value_any _ _ _).mono ?_; rintro e w1 ⟨rfl, rfl⟩; simp only [cv, Int.reduceEq, ↓reduceIte, Int.reduceLE, and_self, and_true, true_and, and_false, false_and]))
  refine (put_any _ 1 Zp _ (rowy_lit2 [[5, 16384]] _ _ _ (by decide) (by decide) ?_ ?_) (by decide)).mono ?_
  · go_simp
  · intro i j hi hj
    match i, hi, j, hj with
    | 0, _, 0, _ => go_simp
    | 0, _, 1, _ => go_simp
  rintro e w2 ⟨v, rfl, hown, hB2⟩
  have hB2s := hB2.size
  simp only [World.size_alloc] at hB2s
  have hBw2 : Below w.heap.size w w2 := (Below.trans (by go_grown) (hB2.mono (by simp only [World.size_alloc]; omega)))
  have HO := Lib.hid hown
  clear hown hB2
  go_wp2_with fail
  refine (sameb_true _ _ 6 (fun i => (putBytes Zp 1).getD i 0) _ (rowy_own (HO.out.alloc _) rfl (by decide)) (rowy_lit1 (putBytes Zp 1) _ _ _ (by decide) (by decide) ?_ ?_)).mono ?_
  · go_simp
  · intro i hi
    match i, hi with
    | 0, _ => go_simp; rfl
    | 1, _ => go_simp; rfl
    | 2, _ => go_simp; rfl
    | 3, _ => go_simp; rfl
    | 4, _ => go_simp; rfl
    | 5, _ => go_simp; rfl
  rintro e w3 ⟨rfl, hB3⟩
  go_wp2_with fail
  go_ret
  exact ⟨rfl, (hBw2.alloc hBw2.size _).trans (hB3.mono (by simp only [World.size_alloc]; have := hBw2.size; omega))⟩
end Go.Proofs.Ytdlmocjkhkopgaa
