/- The document's answer to any frame. -/
import Derived.Test.YtolpfbdklcjlkaaPlain
import Derived.Test.YtolpfbdklcjlkaaRShapeB
import Derived.Test.YtolpfbdklcjlkaaRShapeD
namespace Go.Proofs.Ytolpfbdklcjlkaa
open Go.ChangeShapes Go.WideShapes Go.ChangeAt Go.RowKit
set_option linter.unusedVariables false
set_option linter.unusedSimpArgs false

theorem bt {a b : Int} (h : a = b) : (a == b) = true := by simpa using h
theorem bf {a b : Int} (h : a ≠ b) : (a == b) = false := by simpa using h
theorem nt {a b : Int} (h : a ≠ b) : (a != b) = true := by simpa using h
theorem nf {a b : Int} (h : a = b) : (a != b) = false := by simpa using h
theorem mis_st {ty st : Int} (h : misB ty st = false) (h' : ty ≠ 4 ∧ ty ≠ 6 ∧ ty ≠ 7 ∧ ty ≠ 8) : st ≠ 0 := fun e => by
  unfold misB at h
  rw [if_neg (by omega), if_neg h'.2.2.2] at h
  split at h
  · cases h
  · simp [e] at h
theorem mis_own {ty st : Int} (h : misB ty st = false) (h' : ty = 4 ∨ ty = 6 ∨ ty = 7) : st = 0 := by
  unfold misB at h
  rw [if_pos h'] at h
  simpa using h
theorem mis_ways {ty st : Int} (h : misB ty st = true) : (ty = 4 ∧ st ≠ 0) ∨ (ty = 6 ∧ st ≠ 0) ∨ (ty = 7 ∧ st ≠ 0) ∨ (ty = 5 ∧ st ≠ 0) ∨ (ty ≠ 4 ∧ ty ≠ 6 ∧ ty ≠ 7 ∧ ty ≠ 8 ∧ st = 0) := by
  unfold misB at h
  split at h
  · have : st ≠ 0 := by simpa using h
    omega
  · split at h
    · cases h
    · split at h
      · omega
      · have : st = 0 := by simpa using h
        omega
set_option maxHeartbeats 1000000 in
theorem rshape_any (ty fl st : Int) (v : Value) (L : List Int) (w : World) (hR : BS w v L) (hb : Byt L) :
    Calls Try.prog 15 #[.agg (fC ty fl st v)] w fun e w' => Ans w.heap.size (ofF ty fl st L) e w' ∧ Below w.heap.size w w' := by
  obtain ⟨A, cap, rfl, _⟩ := id hR
  unfold ofF
  cases hrg : rightB ty fl st L.length with
  | false => rw [if_pos (.inl rfl)]; exact rs_wrong ty fl st A _ cap L w hR rfl hb hrg
  | true =>
    obtain ⟨hn', hty⟩ := right_len hrg
    have hn : L.length ≤ 1099511627776 := by omega
    by_cases h9 : 9 < ty
    · rw [if_pos (.inr h9)]; exact rs_far ty fl st A _ cap L w hR rfl hb hrg h9
    · rw [if_neg (by simp [h9])]
      cases hmi : misB ty st with
      | true =>
        rw [if_pos rfl]
        rcases mis_ways hmi with ⟨rfl, h⟩ | ⟨rfl, h⟩ | ⟨rfl, h⟩ | ⟨rfl, h⟩ | ⟨h4, h6, h7, h8, h⟩
        · exact rs_mis4 4 fl st A _ cap L w hR rfl hb hrg h9 (bt rfl) (bf (by decide)) (bf h) (nt h)
        · exact rs_mis6 6 fl st A _ cap L w hR rfl hb hrg h9 (bf (by decide)) (bt rfl) (bf (by decide)) (bf h) (nt h)
        · exact rs_mis7 7 fl st A _ cap L w hR rfl hb hrg h9 (bf (by decide)) (bf (by decide)) (bt rfl) (bf (by decide)) (bf h) (nt h)
        · exact rs_mis5 5 fl st A _ cap L w hR rfl hb hrg h9 (bf (by decide)) (bf (by decide)) (bf (by decide)) (bf (by decide)) (nt (by decide)) (bt rfl) (bf h) (nt h)
        · exact rs_misn ty fl st A _ cap L w hR rfl hb hrg h9 (bf h4) (bf h6) (bf h7) (bf h8) (nt h8) (bt h) (nf h)
      | false =>
        rw [if_neg (by simp)]
        have h5 : ty ≠ 5 := fun h => by subst h; unfold misB at hmi; simp at hmi
        rcases (show ty = 0 ∨ ty = 1 ∨ ty = 2 ∨ ty = 3 ∨ ty = 4 ∨ ty = 6 ∨ ty = 7 ∨ ty = 8 ∨ ty = 9 by omega) with rfl | rfl | rfl | rfl | rfl | rfl | rfl | rfl | rfl
        · have hst := mis_st hmi (by decide)
          exact rs_data 0 fl st A _ cap L w hR rfl hb hn hrg h9 (bt rfl) (bf (by decide)) (bf (by decide)) (bf (by decide)) (bf (by decide)) (bf (by decide)) (bf (by decide)) (bf (by decide)) (bf (by decide)) (bf (by decide)) (nt (by decide)) (bf hst) (nt hst) _ rfl
        · have hst := mis_st hmi (by decide)
          exact rs_head 1 fl st A _ cap L w hR rfl hb hn hrg h9 (bf (by decide)) (bt rfl) (bf (by decide)) (bf (by decide)) (bf (by decide)) (bf (by decide)) (bf (by decide)) (bf (by decide)) (bf (by decide)) (bf (by decide)) (nt (by decide)) (bf hst) (nt hst) _ rfl
        · have hst := mis_st hmi (by decide)
          show Calls _ _ _ _ fun e w' => Ans w.heap.size (prioF 2 st L) e w' ∧ _
          unfold prioF
          by_cases hl : L.length = 5
          · rw [if_neg (by omega)]
            by_cases hne : num L 0 % 2147483648 = st
            · rw [if_pos hne]; exact rs_prio_eq 2 fl st A _ cap L w hR rfl hb hn hrg h9 (bf (by decide)) (bf (by decide)) (bt rfl) (bf (by decide)) (bf (by decide)) (bf (by decide)) (bf (by decide)) (bf (by decide)) (bf (by decide)) (bf (by decide)) (nt (by decide)) (bf hst) (nt hst) hl (bt hne)
            · rw [if_neg hne]; exact rs_prio 2 fl st A _ cap L w hR rfl hb hn hrg h9 (bf (by decide)) (bf (by decide)) (bt rfl) (bf (by decide)) (bf (by decide)) (bf (by decide)) (bf (by decide)) (bf (by decide)) (bf (by decide)) (bf (by decide)) (nt (by decide)) (bf hst) (nt hst) hl (bf hne)
          · rw [if_pos hl]; exact rs_prio_bad 2 fl st A _ cap L w hR rfl hb hn hrg h9 (bf (by decide)) (bf (by decide)) (bt rfl) (bf (by decide)) (bf (by decide)) (bf (by decide)) (bf (by decide)) (bf (by decide)) (bf (by decide)) (bf (by decide)) (nt (by decide)) (bf hst) (nt hst) hl
        · have hst := mis_st hmi (by decide)
          show Calls _ _ _ _ fun e w' => Ans w.heap.size (resetF 3 st L) e w' ∧ _
          unfold resetF
          by_cases hl : L.length = 4
          · rw [if_neg (by omega)]; exact rs_reset 3 fl st A _ cap L w hR rfl hb hn hrg h9 (bf (by decide)) (bf (by decide)) (bf (by decide)) (bt rfl) (bf (by decide)) (bf (by decide)) (bf (by decide)) (bf (by decide)) (bf (by decide)) (bf (by decide)) (nt (by decide)) (bf hst) (nt hst) hl _ rfl
          · rw [if_pos hl]; exact rs_reset_bad 3 fl st A _ cap L w hR rfl hb hn hrg h9 (bf (by decide)) (bf (by decide)) (bf (by decide)) (bt rfl) (bf (by decide)) (bf (by decide)) (bf (by decide)) (bf (by decide)) (bf (by decide)) (bf (by decide)) (nt (by decide)) (bf hst) (nt hst) hl
        · have hst := mis_own hmi (by decide)
          exact rs_sett 4 fl st A _ cap L w hR rfl hb hn hrg h9 (bf (by decide)) (bf (by decide)) (bf (by decide)) (bf (by decide)) (bt rfl) (bf (by decide)) (bf (by decide)) (bf (by decide)) (bf (by decide)) (bf (by decide)) (nt (by decide)) (bt hst) (nf hst) _ rfl
        · have hst := mis_own hmi (by decide)
          show Calls _ _ _ _ fun e w' => Ans w.heap.size (pingF 6 fl st L) e w' ∧ _
          unfold pingF
          by_cases hl : L.length = 8
          · rw [if_neg (by omega)]; exact rs_ping 6 fl st A _ cap L w hR rfl hb hn hrg h9 (bf (by decide)) (bf (by decide)) (bf (by decide)) (bf (by decide)) (bf (by decide)) (bf (by decide)) (bt rfl) (bf (by decide)) (bf (by decide)) (bf (by decide)) (nt (by decide)) (bt hst) (nf hst) hl _ rfl
          · rw [if_pos hl]; exact rs_ping_bad 6 fl st A _ cap L w hR rfl hb hn hrg h9 (bf (by decide)) (bf (by decide)) (bf (by decide)) (bf (by decide)) (bf (by decide)) (bf (by decide)) (bt rfl) (bf (by decide)) (bf (by decide)) (bf (by decide)) (nt (by decide)) (bt hst) (nf hst) hl
        · have hst := mis_own hmi (by decide)
          show Calls _ _ _ _ fun e w' => Ans w.heap.size (awayF 7 st L) e w' ∧ _
          unfold awayF
          by_cases hl : L.length < 8
          · rw [if_pos hl]; exact rs_away_bad 7 fl st A _ cap L w hR rfl hb hn hrg h9 (bf (by decide)) (bf (by decide)) (bf (by decide)) (bf (by decide)) (bf (by decide)) (bf (by decide)) (bf (by decide)) (bt rfl) (bf (by decide)) (bf (by decide)) (nt (by decide)) (bt hst) (nf hst) hl
          · rw [if_neg hl]; exact rs_away 7 fl st A _ cap L w hR rfl hb hn hrg h9 (bf (by decide)) (bf (by decide)) (bf (by decide)) (bf (by decide)) (bf (by decide)) (bf (by decide)) (bf (by decide)) (bt rfl) (bf (by decide)) (bf (by decide)) (nt (by decide)) (bt hst) (nf hst) hl _ rfl _ _ rfl rfl
        · show Calls _ _ _ _ fun e w' => Ans w.heap.size (windF 8 st L) e w' ∧ _
          unfold windF
          by_cases hl : L.length = 4
          · rw [if_neg (by omega)]
            have hm0 : 0 ≤ num L 0 % 2147483648 := by omega
            by_cases hm : 0 < num L 0 % 2147483648
            · rw [if_pos hm]; exact rs_wind 8 fl st A _ cap L w hR rfl hb hn hrg h9 (bf (by decide)) (bf (by decide)) (bf (by decide)) (bf (by decide)) (bf (by decide)) (bf (by decide)) (bf (by decide)) (bf (by decide)) (bt rfl) (bf (by decide)) (nf rfl) hl _ rfl (bf (by omega))
            · rw [if_neg hm]
              by_cases hst : st = 0
              · rw [if_pos hst]; exact rs_wind_zero 8 fl st A _ cap L w hR rfl hb hn hrg h9 (bf (by decide)) (bf (by decide)) (bf (by decide)) (bf (by decide)) (bf (by decide)) (bf (by decide)) (bf (by decide)) (bf (by decide)) (bt rfl) (bf (by decide)) (nf rfl) hl _ rfl (bt (by omega)) (bt hst)
              · rw [if_neg hst]; exact rs_wind_st 8 fl st A _ cap L w hR rfl hb hn hrg h9 (bf (by decide)) (bf (by decide)) (bf (by decide)) (bf (by decide)) (bf (by decide)) (bf (by decide)) (bf (by decide)) (bf (by decide)) (bt rfl) (bf (by decide)) (nf rfl) hl _ rfl (bt (by omega)) (bf hst)
          · rw [if_pos hl]; exact rs_wind_bad 8 fl st A _ cap L w hR rfl hb hn hrg h9 (bf (by decide)) (bf (by decide)) (bf (by decide)) (bf (by decide)) (bf (by decide)) (bf (by decide)) (bf (by decide)) (bf (by decide)) (bt rfl) (bf (by decide)) (nf rfl) hl
        · have hst := mis_st hmi (by decide)
          exact rs_cont 9 fl st A _ cap L w hR rfl hb hn hrg h9 (bf (by decide)) (bf (by decide)) (bf (by decide)) (bf (by decide)) (bf (by decide)) (bf (by decide)) (bf (by decide)) (bf (by decide)) (bf (by decide)) (bt rfl) (nt (by decide)) (bf hst) (nt hst) _ rfl
end Go.Proofs.Ytolpfbdklcjlkaa
