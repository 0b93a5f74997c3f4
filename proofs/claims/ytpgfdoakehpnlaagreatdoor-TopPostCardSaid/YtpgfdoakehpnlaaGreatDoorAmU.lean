import Derived.Test.YtpgfdoakehpnlaaGreatDoorAmTa
import Derived.Test.YtpgfdoakehpnlaaGreatDoorAmTb
import Derived.Test.YtpgfdoakehpnlaaGreatDoorAmTc
import Derived.Test.YtpgfdoakehpnlaaGreatDoorAmTd
set_option linter.unusedVariables false
set_option linter.unusedSimpArgs false
namespace Go.AM
open Go Go.Proofs Go.ChangeShapes Go.WideShapes Go.ChangeAt Go.RowKit
set_option linter.unusedVariables false
/-! # TopPost: at any number and texts -/
/-- what the letters stand for -/
def nuP (t b : List UInt8) (q : Int) : Vl := { x := fun i => if i = 0 then t else if i = 1 then b else [], m := fun _ => q }
theorem nuP_ok {t b : List UInt8} {q l0 h0 l1 h1 l4 h4 : Int} (a0 : l0 ≤ t.length) (b0 : (t.length : Int) ≤ h0) (a1 : l1 ≤ b.length) (b1 : (b.length : Int) ≤ h1) (a4 : l4 ≤ q) (b4 : q ≤ h4) :
    (nuP t b q).Ok [(l0, h0), (l1, h1), (0, 0), (0, 0), (l4, h4)] := by
  intro i lo hi h
  rw [lget_eq] at h
  match i, h with
  | 0, h => simp at h; obtain ⟨rfl, rfl⟩ := h; exact ⟨a0, b0⟩
  | 1, h => simp at h; obtain ⟨rfl, rfl⟩ := h; exact ⟨a1, b1⟩
  | 2, h => simp at h; obtain ⟨rfl, rfl⟩ := h; exact ⟨Int.le_refl _, Int.le_refl _⟩
  | 3, h => simp at h; obtain ⟨rfl, rfl⟩ := h; exact ⟨Int.le_refl _, Int.le_refl _⟩
  | 4, h => simp at h; obtain ⟨rfl, rfl⟩ := h; exact ⟨a4, b4⟩
  | n + 5, h => simp at h
theorem strV_of (s : ByteArray) : Value.string s = strV s.data.toList := rfl
theorem post_args {t b : List UInt8} {q r c m : Int} {ρ : Nm} {ts bs : SS} (hm : m = r + (c * q + 0)) (ht : ts = [.var 0] ∨ (ts = [] ∧ t = [])) (hb : bs = [.var 1] ∨ (bs = [] ∧ b = [])) :
    VRs (nuP t b q) ρ [.int .i64 (.lin r [(4, c)]), .str ts, .str bs] [.int .i64 m, strV t, strV b] := by
  refine VRs.mk (show VR _ _ _ (.int .i64 m) from by rw [hm]; rfl) (VRs.mk ?_ (VRs.mk ?_ VRs.mk0))
  · rcases ht with rfl | ⟨rfl, rfl⟩
    · show strV t = strV (t ++ []); rw [List.append_nil]
    · rfl
  · rcases hb with rfl | ⟨rfl, rfl⟩
    · show strV b = strV (b ++ []); rw [List.append_nil]
    · rfl
theorem body7 : hasBody Tryz.prog 7 = true := by kernel_rfl
theorem post_of {bd : Bd} {r c q m : Int} {t b : List UInt8} {ts bs : SS} {W : World} (hL : laidMetH Tryz.prog laidTop W) (hrun : postRun bd (.lin r [(4, c)]) ts bs = true) (ok : (nuP t b q).Ok bd)
    (hm : m = r + (c * q + 0)) (ht : ts = [.var 0] ∨ (ts = [] ∧ t = [])) (hb : bs = [.var 1] ∨ (bs = [] ∧ b = [])) :
    Calls Tryz.prog 7 #[.int .i64 m, strV t, strV b] W fun e W' => e = .returned (.bool true) ∧ Below W.heap.size W W' :=
  calls_of_run ok hL body7 (post_args hm ht hb) hrun
/-- the letters may stand for other texts, where they do not come in -/
theorem post_of2 {bd : Bd} {r c q m : Int} {t b t' b' : List UInt8} {ts bs : SS} {W : World} (hL : laidMetH Tryz.prog laidTop W) (hrun : postRun bd (.lin r [(4, c)]) ts bs = true) (ok : (nuP t' b' q).Ok bd)
    (hm : m = r + (c * q + 0)) (ht : (ts = [.var 0] ∧ t' = t) ∨ (ts = [] ∧ t = [])) (hb : (bs = [.var 1] ∧ b' = b) ∨ (bs = [] ∧ b = [])) :
    Calls Tryz.prog 7 #[.int .i64 m, strV t, strV b] W fun e W' => e = .returned (.bool true) ∧ Below W.heap.size W W' := by
  refine calls_of_run ok hL body7 (VRs.mk (show VR _ _ _ (.int .i64 m) from by rw [hm]; rfl) (VRs.mk ?_ (VRs.mk ?_ VRs.mk0))) hrun
  · rcases ht with ⟨rfl, rfl⟩ | ⟨rfl, rfl⟩
    · show strV t' = strV (t' ++ []); rw [List.append_nil]
    · rfl
  · rcases hb with ⟨rfl, rfl⟩ | ⟨rfl, rfl⟩
    · show strV b' = strV (b' ++ []); rw [List.append_nil]
    · rfl
theorem post_any (m : Int) (t b : List UInt8) (W : World) (hL : laidMetH Tryz.prog laidTop W) (hm1 : -9223372036854775808 ≤ m) (hm2 : m ≤ 9223372036854775807) (ht : t.length ≤ 9223372036854775807) (hb : b.length ≤ 9223372036854775807) :
    Calls Tryz.prog 7 #[.int .i64 m, strV t, strV b] W fun e W' => e = .returned (.bool true) ∧ Below W.heap.size W W' := by
  have okB : ∀ l0 h0 l1 h1 : Int, l0 ≤ t.length → (t.length : Int) ≤ h0 → l1 ≤ b.length → (b.length : Int) ≤ h1 → (nuP t b m).Ok [(l0, h0), (l1, h1), (0, 0), (0, 0), (-maxN, maxN)] := fun l0 h0 l1 h1 a0 b0 a1 b1 => nuP_ok a0 b0 a1 b1 (by unfold maxN; omega) (by unfold maxN; omega)
  by_cases h1 : 3000 < t.length
  · exact post_of (q := m) (c := 1) (r := 0) hL runA (okB 3001 lenN 0 lenN (by omega) (by unfold lenN; omega) (by omega) (by unfold lenN; omega)) (by omega) (.inl rfl) (.inl rfl)
  by_cases h2 : 3000 < b.length
  · exact post_of (q := m) (c := 1) (r := 0) hL runB (okB 0 3000 3001 lenN (by omega) (by omega) (by omega) (by unfold lenN; omega)) (by omega) (.inl rfl) (.inl rfl)
  have hq : m = m % 3 + (3 * (m / 3) + 0) := by omega
  have hr : m % 3 = 0 ∨ m % 3 = 1 ∨ m % 3 = 2 := by omega
  generalize hqd : m / 3 = q at hq
  have hq1 : -bigN ≤ q := by unfold bigN; omega
  have hq2 : q ≤ bigN := by unfold bigN; omega
  have okC : ∀ t' b' : List UInt8, 1 ≤ t'.length → t'.length ≤ 3000 → 1 ≤ b'.length → b'.length ≤ 3000 → (nuP t' b' q).Ok bdC := fun t' b' a0 b0 a1 b1 => nuP_ok (by omega) (by omega) (by omega) (by omega) hq1 hq2
  -- an empty text is known; the letter then stands for any other
  have key : ∀ r : Int, (∀ ts bs : SS, (ts = [.var 0] ∨ ts = []) → (bs = [.var 1] ∨ bs = []) → postRun bdC (.lin r [(4, 3)]) ts bs = true) → m = r + (3 * q + 0) →
      Calls Tryz.prog 7 #[.int .i64 m, strV t, strV b] W fun e W' => e = .returned (.bool true) ∧ Below W.heap.size W W' := by
    intro r hrun hmr
    by_cases e1 : t = []
    · by_cases e2 : b = []
      · subst e1; subst e2
        exact post_of2 hL (hrun [] [] (.inr rfl) (.inr rfl)) (okC [0] [0] (by simp) (by simp) (by simp) (by simp)) hmr (.inr ⟨rfl, rfl⟩) (.inr ⟨rfl, rfl⟩)
      · subst e1
        have : 1 ≤ b.length := by cases b with | nil => exact (e2 rfl).elim | cons _ _ => simp
        exact post_of2 (t' := [0]) (b' := b) hL (hrun [] [.var 1] (.inr rfl) (.inl rfl)) (okC [0] b (by simp) (by simp) this (by omega)) hmr (.inr ⟨rfl, rfl⟩) (.inl ⟨rfl, rfl⟩)
    · have : 1 ≤ t.length := by cases t with | nil => exact (e1 rfl).elim | cons _ _ => simp
      by_cases e2 : b = []
      · subst e2
        exact post_of2 (t' := t) (b' := [0]) hL (hrun [.var 0] [] (.inl rfl) (.inr rfl)) (okC t [0] this (by omega) (by simp) (by simp)) hmr (.inl ⟨rfl, rfl⟩) (.inr ⟨rfl, rfl⟩)
      · have h3 : 1 ≤ b.length := by cases b with | nil => exact (e2 rfl).elim | cons _ _ => simp
        exact post_of2 (t' := t) (b' := b) hL (hrun [.var 0] [.var 1] (.inl rfl) (.inl rfl)) (okC t b this (by omega) h3 (by omega)) hmr (.inl ⟨rfl, rfl⟩) (.inl ⟨rfl, rfl⟩)
  rcases hr with h | h | h
  · refine key 0 ?_ (by omega)
    rintro ts bs (rfl | rfl) (rfl | rfl)
    · exact runC011
    · exact runC010
    · exact runC001
    · exact runC000
  · refine key 1 ?_ (by omega)
    rintro ts bs (rfl | rfl) (rfl | rfl)
    · exact runC111
    · exact runC110
    · exact runC101
    · exact runC100
  · refine key 2 ?_ (by omega)
    rintro ts bs (rfl | rfl) (rfl | rfl)
    · exact runC211
    · exact runC210
    · exact runC201
    · exact runC200
end Go.AM
