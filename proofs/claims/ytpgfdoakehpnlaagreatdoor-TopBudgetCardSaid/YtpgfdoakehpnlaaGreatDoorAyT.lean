import Derived.Test.YtpgfdoakehpnlaaGreatDoorAyB
import Derived.Test.YtpgfdoakehpnlaaGreatDoorAyS
import Derived.Test.YtpgfdoakehpnlaaGreatDoorCards
set_option linter.unusedVariables false
set_option linter.unusedSimpArgs false
namespace Go.Proofs.YtpgfdoakehpnlaaGreatDoor
open Go Go.AM Go.ChangeShapes Go.WideShapes Go.ChangeAt Go.RowKit
set_option linter.all false
set_option maxRecDepth 100000
/-! # TopBudget: the row and the card -/
theorem laidOutTop : laidOutB Tryz.prog = true := by kernel_rfl
section
variable {H : Type} {enc : TypeId × Value → H} {P : Program}
/-- All arguments read on as they did, in a world that has turned nothing below the heap's old size. -/
theorem all_stay (hl : laidOutB P = true) {W W' : World} (hb : Below W.heap.size W W') :
    ∀ {ts : List TypeId} {vs : List Value} {ds : List (DataW H)} {ps : List MemPlace}, (ts.all fun t => P.readableRec t && decide (t < P.types.size)) = true →
      DataW.TrodAll enc P W 0 (fun _ => true) true ts vs ds ps → (∀ x ∈ ps, x.block < W.heap.size) → DataW.TrodAll enc P W' 0 (fun b => decide (b < W.heap.size)) true ts vs ds ps
  | [], _, _, _, _, h, _ => by
    obtain ⟨rfl, rfl, rfl⟩ := trodAll_nil h
    exact trodAll_mk0
  | t :: ts, _, _, _, hr, h, hlt => by
    obtain ⟨v, vs', d, ds', p, q, rfl, rfl, rfl, h1, h2⟩ := trodAll_cons h
    simp only [List.all_cons, Bool.and_eq_true, decide_eq_true_eq] at hr
    exact trodAll_cons_mk (Below.trod hl hr.1.1 hr.1.2 h1 hb fun x hx => hlt x (List.mem_append_left _ hx)) (all_stay hl hb (by simpa using hr.2) h2 fun x hx => hlt x (List.mem_append_right _ hx))
end
section
variable {H : Type} {enc : TypeId × Value → H} {W : World} {base : Nat}
/-- a slice that was handed in: nothing, or cells of a block that is there -/
theorem slice_two {t e : TypeId} {v : Value} (ht : Tryz.prog.underlying t = some (.slice e)) (h : Value.okWide Tryz.prog W .any base t v) :
    v = .slice none 0 0 ∨ ∃ r o n c, v = .slice (some ⟨r, o, none⟩) n c ∧ n ≤ c ∧ (c : Int) ≤ bBig ∧ r < W.heap.size := by
  simp only [Value.okWide, ht, Cell.okWide] at h
  cases v <;> try (simp [Cell.ok, ht] at h; done)
  rename_i a n c
  cases a with
  | none =>
    have : n = 0 ∧ c = 0 := by
      unfold Cell.ok at h
      rw [ht] at h
      cases n <;> cases c <;> first | exact ⟨rfl, rfl⟩ | exact h.elim
    rw [this.1, this.2]; exact .inl rfl
  | some a =>
    unfold Cell.ok at h
    rw [ht] at h
    obtain ⟨h1, h2, _, h3, row, cells, h4, _⟩ := h
    obtain ⟨r, o, spot⟩ := a
    have h3 : spot = none := h3
    subst h3
    refine .inr ⟨r, o, n, c, rfl, h1, h2, ?_⟩
    have h4 : W.shape? r = some (row, cells) := h4
    rcases Nat.lt_or_ge r W.heap.size with h | h
    · exact h
    · unfold World.shape? at h4
      rw [Array.getElem?_eq_none h] at h4; cases h4
/-- its elements' cells -/
theorem slice_cells {t e : TypeId} {C r o n c : Nat} {d : DataW H} {p : List MemPlace} (ht : Tryz.prog.underlying t = some (.slice e)) (hC : Tryz.prog.cellsOf e = C) (h : DataW.Trod enc Tryz.prog W 0 (fun _ => true) true t (.slice (some ⟨r, o, none⟩) n c) d p) :
    ∀ i, i < n → ∃ L : List Value, L.length = C ∧ (∀ j, j < C → W.cell? ⟨r, o + (C * i + j), none⟩ = L[j]?) ∧ ∃ m x, DataW.trod enc Tryz.prog W 0 (fun _ => true) true m e L = some x := by
  obtain ⟨fuel, hf⟩ := h
  rcases Go.Deep.open_slice ht hf with ⟨hcs, _⟩ | ⟨a, len', cap', m, k, D, Pl, hcs, hb, hl, hm, hmm, hx, hi⟩
  · simp [Value.cells] at hcs
  · simp [Value.cells] at hcs
    obtain ⟨rfl, rfl, rfl⟩ := hcs
    simp only [if_true] at hmm
    rw [hC] at hi
    intro i hin
    obtain ⟨cs', h1, h2⟩ := hi i (by omega)
    obtain ⟨_, h3, h4⟩ := World.cells?_some h1
    refine ⟨cs', h3, fun j hj => ?_, k, _, h2⟩
    have := h4 j hj
    rw [Go.Deep.add_add, add_plain, Nat.mul_comm i C] at this
    exact this
theorem pick_all {n : Nat} {P : Nat → Int → Prop} (h : ∀ i, i < n → ∃ z, P i z ∧ bMin ≤ z ∧ z ≤ bBig) : ∃ Z : Nat → Int, (∀ i, i < n → P i (Z i)) ∧ ∀ i, bMin ≤ Z i ∧ Z i ≤ bBig := by
  classical
  refine ⟨fun i => if hi : i < n then Classical.choose (h i hi) else 0, fun i hi => ?_, fun i => ?_⟩
  · simp only [dif_pos hi]; exact (Classical.choose_spec (h i hi)).1
  · by_cases hi : i < n
    · simp only [dif_pos hi]; exact (Classical.choose_spec (h i hi)).2
    · simp only [dif_neg hi]; unfold bMin bBig; omega
theorem wf64 {n : Int} (h : (Lit.int .i64 n).wf = true) : bMin ≤ n ∧ n ≤ bBig := by
  have := bounds_i64 h
  unfold bMin bBig; omega
theorem open_sizes {v : Value} {d : DataW H} {p : List MemPlace} (hv : Value.okWide Tryz.prog W .any base 71 v) (h : DataW.Trod enc Tryz.prog W 0 (fun _ => true) true 71 v d p) :
    ∃ n Z, Sly W v n 1 0 Z ∧ ∀ t, bMin ≤ Z t ∧ Z t ≤ bBig := by
  rcases slice_two Tryz.underlying71 hv with rfl | ⟨r, o, n, c, rfl, h1, h2, h3⟩
  · exact ⟨0, fun _ => 0, .inl ⟨rfl, rfl⟩, fun _ => by show bMin ≤ (0 : Int) ∧ (0 : Int) ≤ bBig; unfold bMin bBig; omega⟩
  · have hc := slice_cells (C := 1) Tryz.underlying71 (by kernel_rfl) h
    obtain ⟨Z, hZ1, hZ2⟩ := pick_all (P := fun i z => W.cell? ⟨r, o + (1 * i + 0), none⟩ = some (.int .i64 z)) (n := n) (fun i hi => by
      obtain ⟨L, l1, l2, m, x, l3⟩ := hc i hi
      obtain ⟨z, k1, _, k3⟩ := DataW.trod_int Tryz.underlying3 l3
      exact ⟨z, by rw [l2 0 (by omega), k1]; rfl, wf64 k3⟩)
    exact ⟨n, Z, .inr ⟨r, o, c, rfl, h1, h2, h3, hZ1⟩, hZ2⟩
theorem open_wants {v : Value} {d : DataW H} {p : List MemPlace} (hv : Value.okWide Tryz.prog W .any base 23 v) (h : DataW.Trod enc Tryz.prog W 0 (fun _ => true) true 23 v d p) :
    ∃ n Z, Sly W v n 4 1 Z ∧ ∀ t, bMin ≤ Z t ∧ Z t ≤ bBig := by
  rcases slice_two Tryz.underlying23 hv with rfl | ⟨r, o, n, c, rfl, h1, h2, h3⟩
  · exact ⟨0, fun _ => 0, .inl ⟨rfl, rfl⟩, fun _ => by show bMin ≤ (0 : Int) ∧ (0 : Int) ≤ bBig; unfold bMin bBig; omega⟩
  · have hc := slice_cells (C := 4) Tryz.underlying23 (by kernel_rfl) h
    obtain ⟨Z, hZ1, hZ2⟩ := pick_all (P := fun i z => W.cell? ⟨r, o + (4 * i + 1), none⟩ = some (.int .i64 z)) (n := n) (fun i hi => by
      obtain ⟨L, l1, l2, m, x, l3⟩ := hc i hi
      obtain ⟨xs, m', _, _, _, q1, q2⟩ := DataW.trod_struct Tryz.underlying84 l3
      have f1 := q2 1 _ rfl
      match xs, q1 with
      | [y0, y1, y2, y3], _ =>
        obtain ⟨z, k1, _, k3⟩ := DataW.trod_int Tryz.underlying3 (show DataW.trod enc Tryz.prog W 0 (fun _ => true) true m' 3 _ = some y1 from f1)
        have e3 : Tryz.prog.cellsOf 3 = 1 := by kernel_rfl
        replace k1 : List.take (Tryz.prog.cellsOf 3) (List.drop 1 L) = [Value.int .i64 z] := k1
        rw [e3] at k1
        match L, l1 with
        | [a0, a1, a2, a3], _ =>
          have k1 : [a1] = [Value.int .i64 z] := k1
          cases k1
          exact ⟨z, by rw [l2 1 (by omega)]; rfl, wf64 k3⟩)
    exact ⟨n, Z, .inr ⟨r, o, c, rfl, h1, h2, h3, hZ1⟩, hZ2⟩
end
set_option maxRecDepth 100000 in
theorem budget_lifted (os : Os) (started : os.Started) (H : Type) (enc : TypeId × Value → H) :
    ReturnsInHanded {} Tryz.checked os 6 .any (fun w args => (Rows.topBudgetSpec.pre enc Tryz.prog Tryz.f6 Rows.topBudgetRow.domain false w args ∧ laidMetH Tryz.prog laidTop w) ∧ sizedMet enc Tryz.prog Tryz.f6 (OpenSpec.ofChange Rows.topBudgetSpec) false w args)
      (Rows.topBudgetSpec.post enc Tryz.prog Tryz.f6 false true false false) := by
  refine returnsInHanded_of_change_and (C := Tryz.checked) (X := fun w _ => laidMetH Tryz.prog laidTop w) (fun _ _ _ hh h => h.of_heap hh) ownTop started (by kernel_rfl) Tryz.func6
    (ChangeSpec.witness_shaped (enc := enc) (C := Tryz.checked) (os := os) (X := fun w _ => laidMetH Tryz.prog laidTop w) false (World.laidAll Tryz.prog os laidTop) #[.int .i64 0, .slice none 0 0, .slice none 0 0] 8 (World.laidAll_os _ _ _)
      (World.shaped_of_ZipB (by kernel_rfl) (by kernel_rfl)) (by kernel_rfl) (by kernel_rfl) (by kernel_rfl)
      (by rw [MakeChecks.laidMetH_plain _ _ _ (by kernel_rfl)]; exact laidMet_laidAll _ (by kernel_rfl) (by kernel_rfl))) ?_
  intro W base args ds gs before hval0 hW hc _ hL _
  have hval : ∀ (j : Nat) t v, Tryz.f6.params[j]? = some t → args[j]? = some v → Value.okWide Tryz.prog W .any base t v := hval0
  have hW' := hW
  obtain ⟨p, q, hA0, hV, rfl, _, _⟩ := hW
  have hA : DataW.TrodAll enc Tryz.prog W 0 (fun _ => true) true Tryz.f6.params.toList args.toList ds p := hA0
  have lt0 : ∀ x ∈ p, x.block < W.heap.size := fun x hx => hW'.lt x (List.mem_append_left _ hx)
  have hS := hA
  rw [Tryz.params6] at hA hval
  obtain ⟨v0, v1, v2, d0, d1, d2, p0, p1, p2, rfl, rfl, rfl, h0, h1, h2⟩ := trodAll_three hA
  obtain ⟨rfl, rfl⟩ := trodVars_none hV
  obtain ⟨m, rfl, rfl, rfl, wm⟩ := open_int Tryz.underlying3 (hval 0 3 v0 rfl rfl) h0
  obtain ⟨n1, Z1, s1, z1⟩ := open_wants (hval 1 23 v1 rfl rfl) h1
  obtain ⟨n2, Z2, s2, z2⟩ := open_sizes (hval 2 71 v2 rfl rfl) h2
  refine (budget_any allRuns m v1 v2 n1 n2 Z1 Z2 W hL (wf64 wm) s1 s2 z1 z2).mono fun e W' ⟨he, bel⟩ => ?_
  subst he
  exact ⟨_, rfl, _, _, _, [], _, [], hW', trodAll_mk1 (shut_bool Tryz.underlying4 _), all_stay laidOutTop bel (by kernel_rfl) hS lt0, rfl, bel.frame _, fun h => by cases h⟩
end Go.Proofs.YtpgfdoakehpnlaaGreatDoor
