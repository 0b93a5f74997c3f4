/- The contracts of setting.Put and reservoirbook.Same at bytes. -/
import Derived.Test.YtdlmocjkhkopgaaKit
import Derived.Test.YtdlmocjkhkopgaaOpen
import Derived.BigQuiet
import Derived.Laws.OwnMore
namespace Go.Proofs.Ytdlmocjkhkopgaa
open Go.ChangeShapes Go.WideShapes Go.ChangeAt Go.RowKit
set_option linter.unusedVariables false

set_option maxHeartbeats 1000000 in
theorem sameb_true (v1 v2 : Value) (n : Nat) (Z : Nat → Int) (w : World) (h1 : Rowy w v1 n 1 (fun i _ => .int .u8 (Z i))) (h2 : Rowy w v2 n 1 (fun i _ => .int .u8 (Z i))) :
    Calls Try.prog 12 #[v1, v2] w fun e w' => e = .returned (.bool true) ∧ Below w.heap.size w w' := by
  obtain ⟨A1, c1, rfl, l1, m1, k1⟩ := h1
  obtain ⟨A2, c2, rfl, l2, m2, k2⟩ := h2
  have K1 := Lib.hid k1
  have K2 := Lib.hid k2
  clear k1 k2
  unfold maxLen at m1 m2
  go_enter Try.func12, Try.ntmps12
  go_wp2
  go_loopw [5] (fun i wr => ∃ k : Nat, k ≤ n ∧ i = .int .i64 k ∧ Below w.heap.size w wr) (fun i _ => n - (intOf i).toNat)
  case atStart => exact ⟨0, Nat.zero_le _, rfl, Below.refl _ _⟩
  case round =>
    obtain ⟨k, hk, rfl, hB⟩ := hrel
    by_cases hlt : k < n
    · obtain ⟨b1, o1, rfl, g1, q1⟩ := K1.out (by omega)
      obtain ⟨b2, o2, rfl, g2, q2⟩ := K2.out (by omega)
      have e1 : wr.cell? ⟨b1, o1 + k, none⟩ = some (.int .u8 (Z k)) := by rw [hB.cell (p := ⟨b1, _, none⟩) g1]; simpa using q1 k 0 hlt (by omega)
      have e2 : wr.cell? ⟨b2, o2 + k, none⟩ = some (.int .u8 (Z k)) := by rw [hB.cell (p := ⟨b2, _, none⟩) g2]; simpa using q2 k 0 hlt (by omega)
      have hki : (k : Int) < (n : Int) := by omega
      have hk0 : 0 ≤ (k : Int) := by omega
      clear q1 q2
      generalize Z k = z at *
      go_wp2_with fail
      go_quiet (fail)
      go_wp2_with fail
      go_roundw
      case rel => exact ⟨k + 1, by omega, by go_num, below_drewN hB _⟩
      case measure => simp [intOf]; omega
    · go_wp2_with fail
      go_ret
      exact ⟨rfl, hB⟩

def b6 (a b : Int) : List Int := [a / 256 % 256, a % 256, b / 16777216 % 256, b / 65536 % 256, b / 256 % 256, b % 256]
def putBytes (Z : Nat → Nat → Int) : Nat → List Int
  | 0 => []
  | k + 1 => putBytes Z k ++ b6 (Z k 0) (Z k 1)
theorem putBytes_len (Z : Nat → Nat → Int) : ∀ k, (putBytes Z k).length = 6 * k
  | 0 => rfl
  | k + 1 => by simp [putBytes, putBytes_len Z k, b6]; omega
def u8s (l : List Int) : List Value := l.map (Value.int .u8)
theorem u8s_app (l m : List Int) : u8s l ++ u8s m = u8s (l ++ m) := by simp [u8s]
theorem info5 : (Try.prog.info? 5).map (fun i => (i.zero, i.size, i.bytes)) = some (some (.int .u8 0), 1, 1) := by kernel_rfl
def PutPost (Z : Nat → Nat → Int) (n : Nat) (w : World) (e : Ending) (w' : World) : Prop :=
  ∃ v, e = .returned v ∧ w'.ownsRow w.heap.size 5 1 v (6 * n) (u8s (putBytes Z n)) ∧ Below w.heap.size w w'

set_option maxHeartbeats 1000000 in
theorem put_any (v : Value) (n : Nat) (Z : Nat → Nat → Int) (w : World) (hR : Rowy w v n 2 (fun i j => .int .i64 (Z i j))) (hn : n ≤ 1000) :
    Calls Try.prog 13 #[v] w (PutPost Z n w) := by
  obtain ⟨A1, c1, rfl, l1, m1, k1⟩ := hR
  have K1 := Lib.hid k1
  clear k1
  unfold maxLen at m1
  obtain ⟨i0, hi, hz0, hz1, hz2⟩ := info_parts info5
  go_enter Try.func13, Try.ntmps13
  go_wp2
  go_loopw [3, 9] (fun bv i wr => ∃ k : Nat, k ≤ n ∧ i = .int .i64 k ∧ wr.ownsRow w.heap.size 5 1 bv (6 * k) (u8s (putBytes Z k)) ∧ Below w.heap.size w wr) (fun _ i _ => n - (intOf i).toNat)
  case atStart => exact ⟨0, Nat.zero_le _, rfl, World.ownsRow_nil _ _ _ _, Below.refl _ _⟩
  case round =>
    obtain ⟨k, hk, rfl, hown, hB⟩ := hrel
    have hBs := hB.size
    have HU := Lib.hid (show putBytes Z (k + 1) = putBytes Z k ++ b6 (Z k 0) (Z k 1) from rfl)
    obtain ⟨bv, rfl⟩ : ∃ bv, bv = u3 := ⟨_, rfl⟩
    by_cases hlt : k < n
    · obtain ⟨b1, o1, rfl, g1, q1⟩ := K1.out (by omega)
      have e0 : wr.cell? ⟨b1, o1 + k * 2, none⟩ = some (.int .i64 (Z k 0)) := by rw [hB.cell (p := ⟨b1, _, none⟩) g1]; simpa using q1 k 0 hlt (by omega)
      have e1 : wr.cell? ⟨b1, o1 + k * 2 + 1, none⟩ = some (.int .i64 (Z k 1)) := by rw [hB.cell (p := ⟨b1, _, none⟩) g1]; simpa [Nat.add_assoc] using q1 k 1 hlt (by omega)
      clear q1
      generalize Z k 0 = a at *
      generalize Z k 1 = b at *
      generalize putBytes Z k = pb at *
      go_wp2_with (at_builtin
                   refine wpList_append_own _ rfl (.tmp 15) (.tmp 34) 33 rfl w.heap.size 5 i0 _ 1 1 Try.underlying33 hi hz0 hz1 hz2 rfl (by decide) bv (6 * k) _ rfl ((hown.alloc _).alloc _) ⟨wr.heap.size + 1, 0, none⟩ 6 6 (u8s (b6 a b)) rfl rfl ?c1 ?c2 ?c3 ?c4 ?c5 ?_
                   (case c1 => intro j u hj; match j, hj with | 0, hj => (simp [u8s, b6] at hj; subst hj; simp [Addr.add]) | 1, hj => (simp [u8s, b6] at hj; subst hj; simp [Addr.add]) | 2, hj => (simp [u8s, b6] at hj; subst hj; simp [Addr.add]) | 3, hj => (simp [u8s, b6] at hj; subst hj; simp [Addr.add]) | 4, hj => (simp [u8s, b6] at hj; subst hj; simp [Addr.add]) | 5, hj => (simp [u8s, b6] at hj; subst hj; simp [Addr.add]))
                   (case c2 => simp [u8s, b6, Value.oneCell'])
                   (case c3 => unfold maxLen; omega)
                   (case c4 => omega)
                   (case c5 => simp; omega)
                   intro v' w1 hown' hgr _
                   have hB1 : Below w.heap.size w w1 := ((hB.alloc hBs _).alloc (by simp; omega) _).grown hgr (by simp; omega) (fun g hg => (hown.lt g hg).1)
                   clear hgr hown)
      go_roundw
      case rel => exact ⟨k + 1, by omega, by go_num, by rw [HU.out, ← u8s_app]; exact hown', hB1⟩
      case measure => simp [intOf]; omega
    · obtain rfl : k = n := by omega
      have HO := Lib.hid hown
      clear hown
      go_wp2_with fail
      go_ret
      exact ⟨_, rfl, HO.out, hB⟩
end Go.Proofs.Ytdlmocjkhkopgaa
