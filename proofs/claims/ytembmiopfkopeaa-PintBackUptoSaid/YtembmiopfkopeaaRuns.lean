/- PintRuns. -/
import Derived.Test.YtembmiopfkopeaaPut
import Derived.Test.YtembmiopfkopeaaGet
namespace Go.Proofs.Ytembmiopfkopeaa
open Go.ChangeShapes Go.WideShapes Go.ChangeAt Go.RowKit
set_option linter.unusedVariables false
set_option linter.unusedSimpArgs false

def unbv (cs : Array Value) : List Int := cs.toList.map fun | .int _ x => x | _ => 0
theorem bs_blk {w : World} {g cap : Nat} {L : List Int} (h : Blk w g 5 (bv L).toArray) (hc : L.length ≤ cap) (hm : cap ≤ maxLen) : BS w (.slice (some ⟨g, 0, none⟩) L.length cap) L :=
  ⟨_, _, rfl, hc, hm, fun _ => ⟨g, 0, rfl, h.lt, fun i j hi hj => by
    obtain rfl : j = 0 := by omega
    have := h.cell i
    rw [show (0 + (i * 1 + 0)) = i by omega, this, List.getElem?_toArray, bv_get _ _ hi]⟩⟩
theorem bs_lit (w : World) (cs : Array Value) (n : Nat) (h : (bv (unbv cs)).toArray = cs) (hn : (unbv cs).length = n) (hm : n ≤ maxLen) : BS (w.alloc (.cells cs 5)) (.slice (some ⟨w.heap.size, 0, none⟩) n n) (unbv cs) := by
  subst hn
  exact bs_blk (by rw [h]; exact Blk.new _ _ _) (Nat.le_refl _) hm
theorem bs_nil (w : World) : BS w (.slice none 0 0) [] := ⟨_, _, rfl, Nat.le_refl _, Nat.zero_le _, fun h => absurd h (Nat.lt_irrefl _)⟩
theorem same_eq (v1 v2 : Value) (L1 L2 : List Int) (w : World) (h1 : BS w v1 L1) (h2 : BS w v2 L2) (h : L1 = L2) :
    Calls Try.prog 10 #[v1, v2] w fun e w' => e = .returned (.bool true) ∧ Below w.heap.size w w' :=
  (same_any v1 v2 L1 L2 w h1 h2).mono fun e w' ⟨a, b⟩ => ⟨by rw [a, decide_eq_true h], b⟩

set_option maxRecDepth 100000 in
theorem gets_true (v : Value) (L : List Int) (n x t e : Int) (w : World) (hR : BS w v L) (hL : Byt L) (n1 : -9223372036854775808 ≤ n) (n2 : n ≤ 9223372036854775807) (h : getL L 0 n = (x, t, e)) :
    Calls Try.prog 12 #[v, .int .i64 n, .int .i64 x, .int .i64 t, .int .i64 e] w fun e w' => e = .returned (.bool true) ∧ Below w.heap.size w w' := by
  have HR := Lib.hid hR
  have HL := Lib.hid hL
  clear hR hL
  go_enter Try.func12, Try.ntmps12
  go_wp2_with (go_at_call 16; refine (get_any _ L 0 n _ HR.out HL.out (by decide) (by decide) n1 n2).mono ?_; rintro e w1 ⟨rfl, hB1⟩; rw [h])
  go_ret
  exact ⟨rfl, hB1⟩

set_option maxHeartbeats 2000000 in
set_option maxRecDepth 100000 in
theorem runs_any (w : World) : Calls Try.prog 3 #[] w fun e w' => e = .returned (.bool true) ∧ Below w.heap.size w w' := by
  go_enter Try.func3, Try.ntmps3
  go_wp2_with (first
    | (go_at_call 11; refine (put_any _ [] _ _ _ _ (bs_nil _) (by simp) (by decide) (by decide) (by decide) (by decide) (by decide) (by decide)).mono ?_; rintro e w1 ⟨r1, rfl, ho1, hB1⟩; have hA : Below w.heap.size w w1 := Below.trans (by go_grown) (hB1.mono (by go_size)); have hs := hA.size)
    | (go_at_call 10; refine (same_eq _ _ _ _ _ (bs_own (ho1.alloc _) (by rfl)) (bs_lit _ _ _ (by rfl) (by rfl) (by decide)) (by decide)).mono ?_; rintro e w1 ⟨rfl, hB1⟩; have hA : Below w.heap.size w w1 := Below.trans (by go_grown) (hB1.mono (by go_size)); have hs := hA.size)
    | (go_at_call 12; refine (gets_true _ _ _ _ _ _ _ (bs_lit _ _ _ (by rfl) (by rfl) (by decide)) (by unfold Byt; decide) (by decide) (by decide) (by decide)).mono ?_; rintro e w1 ⟨rfl, hB1⟩; have hA : Below w.heap.size w w1 := Below.trans (by go_grown) (hB1.mono (by go_size)); have hs := hA.size))
  go_ret
  exact ⟨rfl, hA⟩
end Go.Proofs.Ytembmiopfkopeaa
