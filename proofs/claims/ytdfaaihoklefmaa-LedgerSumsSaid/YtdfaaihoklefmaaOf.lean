/- of: fields out of texts. -/
import Derived.Test.YtdfaaihoklefmaaLight
import Derived.Deep.AppendLies
namespace Go.Proofs.Ytdfaaihoklefmaa
open Go.ChangeShapes Go.WideShapes Go.ChangeAt Go.RowKit
set_option linter.unusedVariables false
set_option linter.unusedSimpArgs false

theorem info_parts {t : TypeId} {z : Value} {s b : Nat} (h : (Try.prog.info? t).map (fun i => (i.zero, i.size, i.bytes)) = some (some z, s, b)) :
    ∃ i, Try.prog.info? t = some i ∧ i.zero = some z ∧ i.size = s ∧ i.bytes = b := by
  cases hq : Try.prog.info? t with
  | none => simp [hq] at h
  | some i => simp [hq] at h; exact ⟨i, rfl, h.1, h.2.1, h.2.2⟩
/-- The fields that texts make. -/
def twos (G : Nat → ByteArray) : Nat → ByteArray × ByteArray := fun i => (G (2 * i), G (2 * i + 1))
set_option maxHeartbeats 1000000 in
set_option maxRecDepth 100000 in
theorem of_any (A : Option Addr) (n cap : Nat) (G : Nat → ByteArray) (w : World) (hn : n ≤ 100) (hR : Rowy w (.slice A n cap) n 1 (fun i _ => .string (G i))) :
    Calls Try.prog 8 #[.slice A n cap] w fun e w' => (∃ v, e = .returned v ∧ Rowy w' v (n / 2) 2 (FV (twos G))) ∧ Below w.heap.size w w' := by
  obtain ⟨A', cap', he, hlc, hcm, hcell⟩ := hR
  cases he
  have HC := Lib.hid hcell
  clear hcell
  unfold maxLen at hcm
  obtain ⟨i0, hi, hz0, hz1, hz2⟩ := info_parts info35
  go_enter Try.func8, Try.ntmps8
  go_wp2_with fail
  go_loopw [3, 4] (fun s3 s4 wr => ∃ (i : Nat) , s4 = .int .i64 (2 * i : Nat) ∧ i ≤ n / 2 ∧ Hid (wr.ownsRow w.heap.size 35 2 s3 i (rowsOf (FV (twos G)) 2 i)) ∧ Below w.heap.size w wr) (fun _ s4 _ => n - (intOf s4).toNat)
  case atStart => exact ⟨0, rfl, Nat.zero_le _, Lib.hid (World.ownsRow_nil _ _ _ _), by go_grown⟩
  case round =>
    obtain ⟨i, rfl, hin, HO, hB⟩ := hrel
    have hwr := hB.size
    by_cases hlt : 2 * i + 1 < n
    · obtain ⟨b, off, rfl, gb, q⟩ := HC.out (by omega)
      have e1 : wr.cell? ⟨b, off + 2 * i, none⟩ = some (.string (twos G i).1) := by rw [hB.cell (p := ⟨b, _, none⟩) gb]; simpa [twos] using q (2 * i) 0 (by omega) (by omega)
      have e2 : wr.cell? ⟨b, off + (2 * i + 1), none⟩ = some (.string (twos G i).2) := by rw [hB.cell (p := ⟨b, _, none⟩) gb]; simpa [twos] using q (2 * i + 1) 0 hlt (by omega)
      have hb1 : b < wr.heap.size := by omega
      have hsn := Lib.hid (rows_snoc (twos G) i)
      clear q
      generalize hx : (twos G i).1 = x at *
      generalize hy : (twos G i).2 = y at *
      generalize hp : rowsOf (FV (twos G)) 2 i = xs at *
      generalize h2 : 2 * i = k at *
      have hk1 : (k : Int) + 1 < (n : Int) := by omega
      have hk2 : (k : Int) < (n : Int) := by omega
      have hk0 : 0 ≤ (k : Int) := by omega
      have hw1 : IntKind.i64.wrap ((k : Int) + 1) = (k : Int) + 1 := by simp [IntKind.wrap, IntKind.bits, IntKind.signed]; omega
      have hw2 : IntKind.i64.wrap ((k : Int) + 2) = ((k + 2 : Nat) : Int) := by simp [IntKind.wrap, IntKind.bits, IntKind.signed]; omega
      have hk3 : 0 ≤ (k : Int) + 1 := by omega
      have hk4 : ((k : Int) + 1).toNat = k + 1 := by omega
      go_upto_region 5 with fail
      go_region_held3 (fun wx => wx.cell? ⟨b, off + k, none⟩ = some (.string x) ∧ wx.cell? ⟨b, off + (k + 1), none⟩ = some (.string y)) (refine ⟨?_, ?_⟩ <;> first | go_simp | (rw [hCa b _ gb]; assumption))
        ((refine step_append_lies _ (by rfl) _ _ _ (by rfl) w.heap.size 35 i0 _ 2 32 Try.underlying25 hi hz0 hz1 hz2 rfl (by omega) _ i xs (by rfl) ((HO.out.alloc _).drew)
              ⟨wr.heap.size, 0, none⟩ 1 1 [.string x, .string y] (by rfl) (by rfl) (World.news_of_block (cs := #[.string x, .string y]) (t := 35) (fr := (0, 0)) (heap_alloc_new wr _)) (by simp [Value.oneCell'])
              (by omega) (by unfold maxLen; omega) (by omega) (by simp; omega) (wr.heap.size + 1) (by simp) ?_; intro gg cap w1 hown1 hgrow hat hlt; have hBa : Below w.heap.size w w1 := Below.grown (w := _) (by go_grown) hgrow (by go_size) (fun g hg => (HO.out.lt g hg).1); have hCa : ∀ b o, b < w.heap.size → w1.cell? ⟨b, o, none⟩ = wr.cell? ⟨b, o, none⟩ := fun b o h => by rw [hBa.cell (p := ⟨b, o, none⟩) h, hB.cell (p := ⟨b, o, none⟩) h]))
      all_goals
        rw [hsn.out] at hown1
        have HO1 := Lib.hid hown1
        clear hgrow hat hown1
        go_wp2_with fail
        go_roundw
        case rel => exact ⟨i + 1, by go_num, by omega, HO1, hBa⟩
        case measure => simp [intOf]; omega
    · have hlt' : ¬ ((2 * i : Nat) : Int) + 1 < (n : Int) := by omega
      have hw1 : IntKind.i64.wrap (((2 * i : Nat) : Int) + 1) = ((2 * i : Nat) : Int) + 1 := by simp [IntKind.wrap, IntKind.bits, IntKind.signed]; omega
      obtain rfl : i = n / 2 := by omega
      generalize 2 * (n / 2) = k at *
      go_wp2_with fail
      go_ret
      exact ⟨⟨_, rfl, rowy_own HO.out⟩, hB⟩
end Go.Proofs.Ytdfaaihoklefmaa
