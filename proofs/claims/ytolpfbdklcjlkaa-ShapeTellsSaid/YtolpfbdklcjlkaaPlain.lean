/- What Of answers, said plainly. -/
import Derived.Test.YtolpfbdklcjlkaaRuns
namespace Go.Proofs.Ytolpfbdklcjlkaa
open Go.ChangeShapes Go.WideShapes Go.ChangeAt Go.RowKit
set_option linter.unusedVariables false
set_option linter.unusedSimpArgs false
set_option maxHeartbeats 1000000 in
theorem light_at (ty fl st : Int) (v : Value) (L : List Int) (w0 w : World) (hR : BS w0 v L) :
    Calls Try.prog 13 #[.agg #[.int .i64 ty, .int .i64 fl, .int .i64 st, v]] w fun e w' => (∃ v', e = .returned (.agg #[.int .i64 ty, .int .i64 fl, .int .i64 st, v']) ∧ BS w0 v' (L.take 300)) ∧ Below w.heap.size w w' := by
  have HR := Lib.hid hR
  obtain ⟨A, cap, rfl, hk, hm, -⟩ := hR
  by_cases h : 300 < L.length
  · obtain ⟨A', n', c', hrun, hB'⟩ := run_to HR.out 300 (by omega) (by omega)
    have HB := Lib.hid hB'
    have hi : (300 : Int) < (L.length : Int) := by omega
    clear hB' h
    go_enter Try.func13, Try.ntmps13
    go_wp2_with fail
    refine bodyPost_ret (v := .agg #[.int .i64 ty, .int .i64 fl, .int .i64 st, .slice A' n' c']) (by simp [results, Try.results13, go_sem]) rfl ⟨⟨_, rfl, HB.out⟩, by go_grown⟩
  · rw [List.take_of_length_le (by omega)]
    have hi : ¬ (300 : Int) < (L.length : Int) := by omega
    clear h
    go_enter Try.func13, Try.ntmps13
    go_wp2_with fail
    refine bodyPost_ret (v := .agg #[.int .i64 ty, .int .i64 fl, .int .i64 st, .slice A L.length cap]) (by simp [results, Try.results13, go_sem]) rfl ⟨⟨_, rfl, HR.out⟩, by go_grown⟩

theorem padF_len {fl : Int} {L : List Int} {p : Int} {b : List Int} (hp : padF fl L = some (p, b)) : b.length ≤ L.length := by
  unfold padF at hp
  split at hp
  · simp at hp; obtain ⟨_, rfl⟩ := hp; exact Nat.le_refl _
  · match L, hp with
    | x :: r, hp => simp at hp; obtain ⟨_, rfl⟩ := hp; simp
/-- A part, or an error, not both. -/
def Sane (ty st : Int) (n : Nat) (r : PP × (Int × Int × Int)) : Prop :=
  (r.2 = (0, 0, 0) ∧ r.1.ty = ty ∧ r.1.st = st ∧ r.1.body.length ≤ n ∧ r.1.cs ≤ n) ∨ (r.1 = PP.zero ∧ r.2.2.1 ≠ 0 ∧ ((r.2.1 = 2 ∧ r.2.2.2 = 0) ∨ (r.2.1 = 1 ∧ r.2.2.2 = st ∧ st ≠ 0)))
theorem sane_c (ty st c : Int) (n : Nat) (h : c ≠ 0) : Sane ty st n (PP.zero, cB c) := .inr ⟨rfl, h, .inl ⟨rfl, rfl⟩⟩
theorem sane_s (ty st c : Int) (n : Nat) (h : c ≠ 0) (h' : st ≠ 0) : Sane ty st n (PP.zero, sB c st) := .inr ⟨rfl, h, .inr ⟨rfl, rfl, h'⟩⟩
theorem setGo_sane (ty fl st : Int) (L : List Int) : ∀ f i, Sane ty st L.length (setGo ty fl st L f i)
  | 0, i => .inl ⟨rfl, rfl, rfl, Nat.zero_le _, by show (0 : Int) ≤ _; omega⟩
  | f + 1, i => by
    unfold setGo
    split
    · rename_i h; exact sane_c _ _ _ _ h
    · exact setGo_sane ty fl st L f (i + 1)
theorem headF_sane (ty fl st p : Int) (b : List Int) (n : Nat) (h : b.length ≤ n) : Sane ty st n (headF ty fl st p b) := by
  unfold headF
  split
  · exact sane_c _ _ _ _ (by decide)
  · exact .inl ⟨rfl, rfl, rfl, by show (b.take _).length ≤ n; simp; omega, by show (0 : Int) ≤ _; omega⟩
theorem of_sane (ty fl st : Int) (L : List Int) : Sane ty st L.length (ofF ty fl st L) := by
  unfold ofF
  split
  · exact .inl ⟨rfl, rfl, rfl, Nat.zero_le _, by show (0 : Int) ≤ _; omega⟩
  · split
    · exact sane_c _ _ _ _ (by decide)
    · rename_i h9 hm
      have hst : ty ≠ 4 → ty ≠ 6 → ty ≠ 7 → ty ≠ 8 → st ≠ 0 := fun a b c d h => hm (by unfold misB; rw [if_neg (by omega), if_neg d]; split <;> simp [h])
      split
      · unfold dataF
        split
        · exact sane_c _ _ _ _ (by decide)
        · rename_i hp
          split
          · exact sane_c _ _ _ _ (by decide)
          · have := padF_len hp
            exact .inl ⟨rfl, rfl, rfl, by show (List.take _ _).length ≤ _; simp; omega, by show (L.length : Int) ≤ _; omega⟩
      · split
        · unfold headersF
          split
          · exact sane_c _ _ _ _ (by decide)
          · rename_i hp
            have hl := padF_len hp
            split
            · split
              · exact sane_c _ _ _ _ (by decide)
              · split
                · exact sane_s _ _ _ _ (by decide) (hst (by omega) (by omega) (by omega) (by omega))
                · exact headF_sane _ _ _ _ _ _ (by simp; omega)
            · exact headF_sane _ _ _ _ _ _ hl
        · split
          · unfold prioF
            split
            · exact sane_s _ _ _ _ (by decide) (hst (by omega) (by omega) (by omega) (by omega))
            · split
              · exact sane_s _ _ _ _ (by decide) (hst (by omega) (by omega) (by omega) (by omega))
              · exact .inl ⟨rfl, rfl, rfl, Nat.zero_le _, by show (0 : Int) ≤ _; omega⟩
          · split
            · unfold resetF
              split
              · exact sane_c _ _ _ _ (by decide)
              · exact .inl ⟨rfl, rfl, rfl, Nat.zero_le _, by show (0 : Int) ≤ _; omega⟩
            · split
              · unfold setF
                split
                · exact sane_c _ _ _ _ (by decide)
                · exact setGo_sane _ _ _ _ _ _
              · split
                · unfold pingF
                  split
                  · exact sane_c _ _ _ _ (by decide)
                  · exact .inl ⟨rfl, rfl, rfl, Nat.le_refl _, by show (0 : Int) ≤ _; omega⟩
                · split
                  · unfold awayF
                    split
                    · exact sane_c _ _ _ _ (by decide)
                    · exact .inl ⟨rfl, rfl, rfl, by show (L.drop 8).length ≤ _; simp, by show (0 : Int) ≤ _; omega⟩
                  · split
                    · unfold windF
                      split
                      · exact sane_c _ _ _ _ (by decide)
                      · split
                        · exact .inl ⟨rfl, rfl, rfl, Nat.zero_le _, by show (0 : Int) ≤ _; omega⟩
                        · split
                          · exact sane_c _ _ _ _ (by decide)
                          · exact sane_s _ _ _ _ (by decide) (by assumption)
                    · exact .inl ⟨rfl, rfl, rfl, Nat.le_refl _, by show (0 : Int) ≤ _; omega⟩
end Go.Proofs.Ytolpfbdklcjlkaa
