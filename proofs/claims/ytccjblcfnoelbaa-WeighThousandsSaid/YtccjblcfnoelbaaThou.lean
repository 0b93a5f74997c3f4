/- WeighThousands. -/
import Derived.Test.YtccjblcfnoelbaaReads
import Derived.Test.YtccjblcfnoelbaaWit
import Derived.Laws.BytesString
import Derived.Laws.CopyOwn
namespace Go.Proofs.Ytccjblcfnoelbaa
open Go.ChangeShapes Go.WideShapes Go.ChangeAt Go.RowKit
set_option linter.unusedVariables false
set_option linter.unusedSimpArgs false
attribute [local go_sem] run_f2i run_i2f run_mul run_quo

theorem run_b2s (w : World) (a b c : Int) : (convert 42 9 (.slice (some ⟨w.heap.size, 0, none⟩) 3 3)).run Try.prog (w.alloc (.cells #[.int .u8 a, .int .u8 b, .int .u8 c] 5)) =
    .ok (.string ⟨#[UInt8.ofNat a.toNat, UInt8.ofNat b.toNat, UInt8.ofNat c.toNat]⟩) (w.alloc (.cells #[.int .u8 a, .int .u8 b, .int .u8 c] 5)) := by
  rw [run_convert_bytes_string _ 42 9 5 _ 3 3 Try.underlying42 Try.underlying5 Try.underlying9]
  have hc := (Blk.new w 5 #[.int .u8 a, .int .u8 b, .int .u8 c]).cell
  have hl := run_loadCells_list (P := Try.prog) (w.alloc (.cells #[.int .u8 a, .int .u8 b, .int .u8 c] 5)) ⟨w.heap.size, 0, none⟩ [.int .u8 a, .int .u8 b, .int .u8 c] (fun j v hj => by
    rw [add_plain, Nat.zero_add, hc j]
    simpa using hj)
  rw [run_bytesToString _ _ 3 3 [a, b, c] hl]
  rfl
theorem run_b2s2 (w : World) (a b c : Int) (g : Nat) (hg : w.heap.size = g) : (convert 42 9 (.slice (some ⟨g, 0, none⟩) 3 3)).run Try.prog (w.alloc (.cells #[.int .u8 a, .int .u8 b, .int .u8 c] 5)) =
    .ok (.string ⟨#[UInt8.ofNat a.toNat, UInt8.ofNat b.toNat, UInt8.ofNat c.toNat]⟩) (w.alloc (.cells #[.int .u8 a, .int .u8 b, .int .u8 c] 5)) := by
  subst hg; exact run_b2s w a b c
attribute [local go_sem] run_b2s2
/-- Three digits behind nought. -/
abbrev dg (K : Int) : ByteArray := ⟨#[48, 46]⟩ ++ ⟨#[UInt8.ofNat (48 + K / 100).toNat, UInt8.ofNat (48 + K / 10 % 10).toNat, UInt8.ofNat (48 + K % 10).toNat]⟩
theorem u8n (x : Int) (h0 : 0 ≤ x) (h1 : x < 256) : ((UInt8.ofNat x.toNat).toNat : Int) = x := by
  rw [UInt8.toNat_ofNat']
  omega
theorem qv_dg (K : Int) (h0 : 0 ≤ K) (h1 : K ≤ 999) : qv (dg K) = (fdiv K 1000, true) := by
  have b0 : bt (dg K) 0 = 48 := rfl
  have b1 : bt (dg K) 1 = 46 := rfl
  have b2 : bt (dg K) 2 = 48 + K / 100 := u8n _ (by omega) (by omega)
  have b3 : bt (dg K) 3 = 48 + K / 10 % 10 := u8n _ (by omega) (by omega)
  have b4 : bt (dg K) 4 = 48 + K % 10 := u8n _ (by omega) (by omega)
  have hs : (dg K).size = 5 := rfl
  unfold qv
  rw [hs, b0, b1, if_neg (by omega), show (3 : Nat) = 2 + 1 from rfl, qgo, if_pos (by decide), b0, b2, if_neg (by omega), qgo, if_pos (by decide), b0, b3, if_neg (by omega), qgo, if_pos (by decide), b0, b4, if_neg (by omega), qgo]
  unfold qend
  rw [show 10 * (10 * (10 * (48 - 48) + (48 + K / 100 - 48)) + (48 + K / 10 % 10 - 48)) + (48 + K % 10 - 48) = K by omega]
  rfl
theorem qv_dg0 (K : Int) : qv (dg K ++ ⟨#[48]⟩) = (0, false) := by
  unfold qv
  rw [if_pos (.inr (.inl (show 5 < (dg K ++ ⟨#[48]⟩).size from (by decide : 5 < 6))))]
theorem thou_facts : ∀ k : Nat, k < 1000 → feq (fdiv k 1000) (fdiv k 1000) = true ∧ flt (fdiv k 1000) (fdiv (k + 1) 1000) = true := by decide +kernel
theorem thou_last : fdiv 1000 1000 = 4607182418800017408 := by decide +kernel
theorem thousand : floatOfInt .f64 1000 = 4652007308841189376 := by decide +kernel
set_option maxHeartbeats 1000000 in
set_option maxRecDepth 100000 in
theorem thou_any (n : Int) (w : World) (n1 : -9223372036854775808 ≤ n) (n2 : n ≤ 9223372036854775807) :
    Calls Try.prog 9 #[.int .i64 n] w fun e w' => e = .returned (.bool true) ∧ Below w.heap.size w w' := by
  have k1 := wit_lo n 0 999 (by decide)
  have k2 := wit_hi n 0 999 (by decide)
  generalize hK : wit n 0 999 = K at *
  have hq := qv_dg K k1 k2
  have hq0 := qv_dg0 K
  have hd := div_ok K 1000 k1 (by omega) (by decide) (by decide)
  rw [thousand] at hd
  have hf := thou_facts K.toNat (by omega)
  rw [show ((K.toNat : Nat) : Int) = K by omega] at hf
  obtain ⟨f1, f2⟩ := hf
  generalize hx : fdiv K 1000 = x at *
  rcases (show K + 1 < 1000 ∨ K = 999 by omega) with h9 | h9
  · have hq1 := qv_dg (K + 1) (by omega) (by omega)
    generalize hy : fdiv (K + 1) 1000 = y at *
    go_enter Try.func9, Try.ntmps9
    go_wp2_with (first
      | (go_at_call 26; refine (wit_any _ _ _ _ (by decide) (by decide) (by decide) (by omega) (by omega)).mono ?_; rintro e w1 ⟨rfl, rfl⟩; rw [hK])
      | (go_at_call 12; refine (q_any _ _).mono ?_; rintro e w1 ⟨rfl, rfl⟩; first | rw [hq] | rw [hq0] | rw [hq1])
      | (go_at_call 3; refine (runs_any _).mono ?_; rintro e w2 ⟨rfl, hB2⟩))
    go_ret
    refine ⟨rfl, ?_⟩
    refine Below.trans ?_ (hB2.mono ?_)
    · go_grown
    · simp only [World.size_alloc]; omega
  · have hy : fdiv (K + 1) 1000 = 4607182418800017408 := by rw [h9]; exact thou_last
    rw [hy] at f2
    have h9' : ¬ K + 1 < 1000 := by omega
    clear h9
    go_enter Try.func9, Try.ntmps9
    go_wp2_with (first
      | (go_at_call 26; refine (wit_any _ _ _ _ (by decide) (by decide) (by decide) (by omega) (by omega)).mono ?_; rintro e w1 ⟨rfl, rfl⟩; rw [hK])
      | (go_at_call 12; refine (q_any _ _).mono ?_; rintro e w1 ⟨rfl, rfl⟩; first | rw [hq] | rw [hq0] | rw [qv2])
      | (go_at_call 3; refine (runs_any _).mono ?_; rintro e w2 ⟨rfl, hB2⟩))
    go_ret
    refine ⟨rfl, ?_⟩
    refine Below.trans ?_ (hB2.mono ?_)
    · go_grown
    · simp only [World.size_alloc]; omega
end Go.Proofs.Ytccjblcfnoelbaa
