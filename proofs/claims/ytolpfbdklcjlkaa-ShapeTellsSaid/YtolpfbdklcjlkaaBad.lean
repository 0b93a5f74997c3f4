/- The law's bad, and the runs of chapter 10. -/
import Derived.Test.YtolpfbdklcjlkaaOfB
namespace Go.Proofs.Ytolpfbdklcjlkaa
open Go.ChangeShapes Go.WideShapes Go.ChangeAt Go.RowKit
set_option linter.unusedVariables false
set_option linter.unusedSimpArgs false

theorem of_is (ty fl st : Int) (v : Value) (L : List Int) (w : World) (hR : BS w v L) (hb : Byt L) (pty pst pco pla pmo pcs b1 b2 b3 : Int) (pe pf pk : Bool) (pbody : List Int) (pn : Nat) (pZ : Nat → Int × Int) (hof : Hid (ofF ty fl st L = (⟨pty, pst, pe, pf, pk, pbody, pco, pla, pmo, pcs, pn, pZ⟩, (b1, b2, b3)))) :
    Calls Try.prog 10 #[.agg (fC ty fl st v)] w fun e w' => (∃ Ab cb As cs, e = .returned (.tuple #[.agg #[.int .i64 pty, .int .i64 pst, .bool pe, .bool pf, .bool pk, .slice Ab pbody.length cb, .int .i64 pco, .int .i64 pla, .int .i64 pmo, .int .i64 pcs, .slice As pn cs], .agg #[.int .i64 b1, .int .i64 b2, .int .i64 b3]]) ∧ w'.ownsRow w.heap.size 5 1 (.slice Ab pbody.length cb) pbody.length (bv pbody) ∧ w'.ownsRow w.heap.size 54 2 (.slice As pn cs) pn (rowsOf (SV pZ) 2 pn)) ∧ Below w.heap.size w w' := by
  refine (of_any ty fl st v L w hR hb).mono ?_
  rintro e w' ⟨hans, hB⟩
  rw [hof.out] at hans
  obtain ⟨v, rfl, vb, vs, rfl, hob, hsv⟩ := hans
  obtain ⟨Ab, cb, rfl⟩ := own_form hob
  obtain ⟨As, cs, rfl⟩ := own_form hsv
  exact ⟨⟨Ab, cb, As, cs, rfl, hob, hsv⟩, hB⟩
theorem bs_lit (w : World) (L : List Int) (h : L.length ≤ 1000) (g : Nat) (hg : g = w.heap.size) : BS (w.alloc (.cells (bv L).toArray 5)) (.slice (some ⟨g, 0, none⟩) L.length L.length) L := by
  subst hg
  refine ⟨_, _, rfl, Nat.le_refl _, by unfold maxLen; omega, fun _ => ⟨_, _, rfl, by simp, fun i j hi hj => ?_⟩⟩
  obtain rfl : j = 0 := by omega
  rw [(Blk.new w 5 _).cell, List.getElem?_toArray, show (0 + (i * 1 + 0)) = i by omega]
  exact bv_get L i hi
theorem bs_nil (w : World) : BS w (.slice none 0 0) [] := ⟨none, 0, rfl, Nat.le_refl _, Nat.zero_le _, fun h => absurd h (Nat.lt_irrefl _)⟩
theorem byt_lit (L : List Int) (h : (L.all fun x => decide (0 ≤ x) && decide (x ≤ 255)) = true) : Byt L := fun x hx => by
  have := List.all_eq_true.1 h x hx
  simpa using this

set_option maxHeartbeats 4000000 in
set_option maxRecDepth 100000 in
theorem bad_any (ty fl st sc co n : Int) (A : Option Addr) (len cap : Nat) (L : List Int) (w : World) (hR : BS w (.slice A len cap) L) (hb : Byt L) (hof : ofF ty fl st L = (PP.zero, (sc, co, n))) (hn : n = if sc = 2 then 0 else st) :
    Calls Try.prog 11 #[.int .i64 ty, .int .i64 fl, .int .i64 st, .int .i64 sc, .int .i64 co, .slice A len cap] w fun e w' => e = .returned (.bool true) ∧ Below w.heap.size w w' := by
  have HR := Lib.hid hR
  have HY := Lib.hid hb
  have HOF : Hid (ofF ty fl st L = (⟨0, 0, false, false, false, [], 0, 0, 0, 0, 0, fun _ => (0, 0)⟩, (sc, co, n))) := Lib.hid hof
  have HN := Lib.hid hn
  clear hR hb hof hn
  go_enter Try.func11, Try.ntmps11
  go_upto_region 2 with (go_at_call 10; refine (of_is ty fl st _ L _ HR.out HY.out _ _ _ _ _ _ _ _ _ _ _ _ _ _ _ HOF).mono ?_; rintro e w1 ⟨⟨Ab, cb, As, cs, rfl, hob, hsv⟩, hB1⟩; have hs1 := hB1.size)
  refine wp_forget (fun W => Below w.heap.size w W ∧ w1.heap.size + 1 < W.heap.size ∧ Hid (Blk W w1.heap.size 26 #[.int .i64 0, .int .i64 0, .bool false, .bool false, .bool false, .slice Ab 0 cb, .int .i64 0, .int .i64 0, .int .i64 0, .int .i64 0, .slice As 0 cs]) ∧ Hid (Blk W (w1.heap.size + 1) 28 #[.int .i64 sc, .int .i64 co, .int .i64 n]) ∧ Hid (BS W (.slice Ab 0 cb) []) ∧ Hid (Rowy W (.slice As 0 cs) 0 2 (SV fun _ => (0, 0)))) ⟨by go_grown, by go_size, Lib.hid ((Blk.new _ _ _).alloc _), Lib.hid (Blk.new_at (by go_size)), Lib.hid ((bs_own hob rfl).below (by go_grown) (Nat.le_refl _)), Lib.hid ((rowy_own hsv).below (by go_grown) (Nat.le_refl _))⟩ ?_
  rintro W ⟨hB, hl, HP, HX, HBd, HS⟩
  have hBs := hB.size
  have x0 : W.cell? ⟨w1.heap.size + 1, 0, none⟩ = some (.int .i64 sc) := HX.out.cell 0
  have x1 : W.cell? ⟨w1.heap.size + 1, 1, none⟩ = some (.int .i64 co) := HX.out.cell 1
  have x2 : W.cell? ⟨w1.heap.size + 1, 2, none⟩ = some (.int .i64 n) := HX.out.cell 2
  have p0 : W.cell? ⟨w1.heap.size, 0, none⟩ = some (.int .i64 0) := HP.out.cell 0
  have p1 : W.cell? ⟨w1.heap.size, 1, none⟩ = some (.int .i64 0) := HP.out.cell 1
  have p2 : W.cell? ⟨w1.heap.size, 2, none⟩ = some (.bool false) := HP.out.cell 2
  have p3 : W.cell? ⟨w1.heap.size, 3, none⟩ = some (.bool false) := HP.out.cell 3
  have p4 : W.cell? ⟨w1.heap.size, 4, none⟩ = some (.bool false) := HP.out.cell 4
  have p5 : W.cell? ⟨w1.heap.size, 5, none⟩ = some (.slice Ab 0 cb) := HP.out.cell 5
  have p6 : W.cell? ⟨w1.heap.size, 6, none⟩ = some (.int .i64 0) := HP.out.cell 6
  have p7 : W.cell? ⟨w1.heap.size, 7, none⟩ = some (.int .i64 0) := HP.out.cell 7
  have p8 : W.cell? ⟨w1.heap.size, 8, none⟩ = some (.int .i64 0) := HP.out.cell 8
  have p9 : W.cell? ⟨w1.heap.size, 9, none⟩ = some (.int .i64 0) := HP.out.cell 9
  have p10 : W.cell? ⟨w1.heap.size, 10, none⟩ = some (.slice As 0 cs) := HP.out.cell 10
  have hn := HN.out
  by_cases h2 : sc = 2
  · rw [if_pos h2] at hn
    have h2' : (sc == 2) = true := by simpa using h2
    clear h2 hob hsv hB1
    subst hn
    go_wp2_with (first
      | (go_at_call 12; refine (parts_any _ _ _ _ _ _ _ _ _ _ _ _ _ [] 0 (fun _ => (0, 0)) _ HBd.out (bs_nil _) HS.out (rowy_nil _ _ _)).mono ?_; rintro e w2 ⟨rfl, hB2⟩))
    go_ret
    exact ⟨rfl, hB.trans (hB2.mono hBs)⟩
  · rw [if_neg h2] at hn
    have h2' : (sc == 2) = false := by simpa using h2
    clear h2 hob hsv hB1
    subst hn
    go_wp2_with (first
      | (go_at_call 12; refine (parts_any _ _ _ _ _ _ _ _ _ _ _ _ _ [] 0 (fun _ => (0, 0)) _ HBd.out (bs_nil _) HS.out (rowy_nil _ _ _)).mono ?_; rintro e w2 ⟨rfl, hB2⟩))
    go_ret
    exact ⟨rfl, hB.trans (hB2.mono hBs)⟩
theorem run_ok : ofF 0 9 1 [1, 97, 98, 0] = (⟨0, 1, true, false, false, [97, 98], 0, 0, 0, 4, 0, fun _ => (0, 0)⟩, (0, 0, 0)) := by kernel_rfl
theorem run_a1 : ofF 0 0 0 [] = (PP.zero, (2, 1, 0)) := by kernel_rfl
theorem run_a2 : ofF 0 8 1 [5, 97] = (PP.zero, (2, 1, 0)) := by kernel_rfl
theorem run_b1 : ofF 8 0 3 [128, 0, 0, 0] = (PP.zero, (1, 1, 3)) := by kernel_rfl
theorem run_b2 : ofF 4 0 0 [0, 4, 128, 0, 0, 0] = (PP.zero, (2, 3, 0)) := by kernel_rfl
theorem run_b3 : ofF 3 0 1 [0, 0, 0] = (PP.zero, (2, 6, 0)) := by kernel_rfl
end Go.Proofs.Ytolpfbdklcjlkaa
