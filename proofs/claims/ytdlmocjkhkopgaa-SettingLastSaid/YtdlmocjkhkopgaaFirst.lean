/- SettingFirst. -/
import Derived.Test.YtdlmocjkhkopgaaKitB
import Derived.Deep.DeepCutAuto
namespace Go.Proofs.Ytdlmocjkhkopgaa
open Go.ChangeShapes Go.WideShapes Go.ChangeAt Go.RowKit
set_option linter.unusedVariables false
set_option linter.unusedSimpArgs false

theorem z1_ok (i v : Int) (h1 : 0 ≤ i) (h2 : i ≤ 65535) (h3 : -9223372036854775808 ≤ v) (h4 : v ≤ 9223372036854775807) : ∀ p q, p < 1 → q < 2 → -9223372036854775808 ≤ Z1 i v p q ∧ Z1 i v p q ≤ 9223372036854775807 := by
  intro p q hp hq
  unfold Z1
  split <;> omega
/-- The cells of the first set, in block b. -/
abbrev FC (w : World) (b : Nat) : Prop := w.cell? ⟨b, 0, none⟩ = some (.int .i64 4096) ∧ w.cell? ⟨b, 1, none⟩ = some (.int .i64 2147483647) ∧ w.cell? ⟨b, 2, none⟩ = some (.int .i64 65535) ∧ w.cell? ⟨b, 3, none⟩ = some (.int .i64 16384) ∧ w.cell? ⟨b, 4, none⟩ = some (.int .i64 2147483647)
/-- What Apply answers to one setting. -/
def res (x : S5) (i v : Int) : S5 := if cv i v = 0 then upd x i v else x
theorem apply_one (x : S5) (i v : Int) (b : Nat) (w : World) (h1 : 0 ≤ i) (h2 : i ≤ 65535) (h3 : -9223372036854775808 ≤ v) (h4 : v ≤ 9223372036854775807)
    (hb : b < w.heap.size) (c0 : w.cell? ⟨b, 0, none⟩ = some (.int .i64 i)) (c1 : w.cell? ⟨b, 1, none⟩ = some (.int .i64 v)) :
    Calls Try.prog 9 #[.agg #[.int .i64 x.t, .int .i64 x.s, .int .i64 x.w, .int .i64 x.f, .int .i64 x.l], .slice (some ⟨b, 0, none⟩) 1 1] w fun e w' => e = .returned (.tuple #[.agg (cs5 (res x i v)), .int .i64 (cv i v)]) ∧ Below w.heap.size w w' :=
  (apply_any x _ 1 (Z1 i v) w (rowy_one i v w b hb c0 c1) (z1_ok i v h1 h2 h3 h4)).mono fun e w' ⟨r', c', h1, h2, h3⟩ => by
    unfold res
    by_cases h : cv i v = 0
    · obtain ⟨rfl, rfl⟩ := h1.one (ans_one x i v h)
      rw [if_pos h, h]; exact ⟨h2, h3⟩
    · obtain ⟨rfl, rfl⟩ := h1.one (ans_one_bad x i v _ rfl h)
      rw [if_neg h]; exact ⟨h2, h3⟩

set_option maxHeartbeats 20000000 in
set_option maxRecDepth 100000 in
theorem first_k1 (id value n m : Int) (w : World) (hk : wit id 1 6 = 1) (hm : wit id 7 65535 = m) (hn : wit value 16384 16777215 = n)
    (m1 : 7 ≤ m) (m2 : m ≤ 65535) (n1 : 16384 ≤ n) (n2 : n ≤ 16777215) (i1 : -9223372036854775808 ≤ id) (i2 : id ≤ 9223372036854775807) (v1 : -9223372036854775808 ≤ value) (v2 : value ≤ 9223372036854775807)
    (hr : res ⟨4096, 2147483647, 65535, 16384, 2147483647⟩ 1 n = ⟨n, 2147483647, 65535, 16384, 2147483647⟩) (hc : cv 1 n = 0)
    (hr2 : res ⟨4096, 2147483647, 65535, 16384, 2147483647⟩ m value = ⟨4096, 2147483647, 65535, 16384, 2147483647⟩) (hc2 : cv m value = 0) :
    Calls Try.prog 6 #[.int .i64 id, .int .i64 value] w fun e w' => e = .returned (.bool true) ∧ Below w.heap.size w w' := by
  go_enter Try.func6, Try.ntmps6
  go_wp2_with (first
    | (go_at_call 18; refine (wit_any _ _ _ _ (by decide) (by decide) (by decide) (by omega) (by omega)).mono ?_; rintro e w1 ⟨rfl, rfl⟩)
    | (go_at_call 10; refine (first_any _).mono ?_; rintro e w1 ⟨rfl, rfl⟩; unfold agg5))
  refine wp_forget (fun W => Blk W (w.heap.size + 1) 23 #[.int .i64 4096, .int .i64 2147483647, .int .i64 65535, .int .i64 16384, .int .i64 2147483647] ∧ Below w.heap.size w W) ⟨Blk.new_at (by simp only [World.size_alloc]), by go_grown⟩ ?_
  rintro W ⟨hX, hB0⟩
  have hXl := hX.lt
  have hXl1 : w.heap.size + 1 < W.heap.size + 1 := by omega
  have hXl2 : w.heap.size + 1 < W.heap.size + 1 + 1 := by omega
  have hw := hB0.size
  generalize hq : w.heap.size + 1 = b6 at *
  obtain ⟨x0, x1, x2, x3, x4⟩ : FC W b6 := ⟨hX.cell 0, hX.cell 1, hX.cell 2, hX.cell 3, hX.cell 4⟩
  go_cut [7, 8] (fun s7 s8 wx => ∃ g : Nat, s7 = .pointer (some ⟨g, 0, none⟩) ∧ s8 = .int .i64 0 ∧ g < wx.heap.size ∧ g ≠ b6 ∧ (wx.cell? ⟨g, 0, none⟩ = some (.int .i64 n) ∧ wx.cell? ⟨g, 1, none⟩ = some (.int .i64 2147483647) ∧ wx.cell? ⟨g, 2, none⟩ = some (.int .i64 65535) ∧ wx.cell? ⟨g, 3, none⟩ = some (.int .i64 16384) ∧ wx.cell? ⟨g, 4, none⟩ = some (.int .i64 2147483647)) ∧ FC wx b6 ∧ b6 < wx.heap.size ∧ Below w.heap.size w wx)
  case first =>
    go_region_held3 (fun w' => FC w' b6) (refine ⟨?_, ?_, ?_, ?_, ?_⟩ <;> go_simp) (first
      | (go_at_call 18; refine (wit_any _ _ _ _ (by decide) (by decide) (by decide) (by omega) (by omega)).mono ?_; rintro e w1 ⟨rfl, rfl⟩)
      | (go_at_call 9; refine (apply_one ⟨4096, 2147483647, 65535, 16384, 2147483647⟩ 1 n _ _ (by omega) (by omega) (by omega) (by omega) (by go_simp) (by go_simp) (by go_simp)).mono ?_; rintro e w1 ⟨rfl, hB1⟩; obtain ⟨d1, f1⟩ := bcell hB1; have s1 : b6 < w1.heap.size := Nat.lt_of_lt_of_le (by go_simp) hB1.size; simp only [hr, hc, hk, hn, cs5]))
    all_goals
      have z := hB1.size
      simp only [World.size_alloc, World.size_drew] at z
      have hBc : Below w.heap.size w w1 := by
        refine Below.trans ?_ (hB1.mono ?_)
        · go_grown
        · simp only [World.size_alloc, World.size_drew]; omega
      have q := fun i => d1 W.heap.size i (by simp only [World.size_alloc, World.size_drew]; omega)
      go_wp2_with fail
      go_meet
      refine ⟨_, rfl, rfl, ?_, ?_, ?_, by assumption, ?_, ?_⟩
      · first | (simp only [World.size_alloc, World.size_setCell]; omega) | omega
      · omega
      · refine ⟨?_, ?_, ?_, ?_, ?_⟩ <;> go_simp
      · first | (simp only [World.size_alloc, World.size_setCell]; omega) | omega
      · go_grown
  case rest =>
    obtain ⟨g, rfl, rfl, gl, gn, ⟨y0, y1, y2, y3, y4⟩, ⟨x0, x1, x2, x3, x4⟩, xl, hBc⟩ := hcut
    go_upto_region 4 with fail
    have gl1 : g < wc.heap.size + 1 := by omega
    have gl2 : g < wc.heap.size + 1 + 1 := by omega
    have xl1 : b6 < wc.heap.size + 1 := by omega
    have xl2 : b6 < wc.heap.size + 1 + 1 := by omega
    go_cut [9, 10] (fun s9 s10 wx => ∃ h : Nat, s9 = .pointer (some ⟨h, 0, none⟩) ∧ s10 = .int .i64 0 ∧ h < wx.heap.size ∧ FC wx h ∧ (wx.cell? ⟨g, 0, none⟩ = some (.int .i64 n) ∧ wx.cell? ⟨g, 1, none⟩ = some (.int .i64 2147483647) ∧ wx.cell? ⟨g, 2, none⟩ = some (.int .i64 65535) ∧ wx.cell? ⟨g, 3, none⟩ = some (.int .i64 16384) ∧ wx.cell? ⟨g, 4, none⟩ = some (.int .i64 2147483647)) ∧ FC wx b6 ∧ b6 < wx.heap.size ∧ g < wx.heap.size ∧ Below w.heap.size w wx)
    case first =>
      go_region_held3 (fun w' => FC w' b6) (refine ⟨?_, ?_, ?_, ?_, ?_⟩ <;> go_simp) (first
        | (go_at_call 18; refine (wit_any _ _ _ _ (by decide) (by decide) (by decide) (by omega) (by omega)).mono ?_; rintro e w1 ⟨rfl, rfl⟩)
        | (go_at_call 9; refine (apply_one ⟨4096, 2147483647, 65535, 16384, 2147483647⟩ m value _ _ (by omega) (by omega) (by omega) (by omega) (by go_simp) (by go_simp) (by go_simp)).mono ?_; rintro e w1 ⟨rfl, hB1⟩; obtain ⟨d1, f1⟩ := bcell hB1; have s1 : b6 < w1.heap.size := Nat.lt_of_lt_of_le (by go_simp) hB1.size; simp only [hr2, hc2, hm, cs5]))
      all_goals
        have z := hB1.size
        simp only [World.size_alloc, World.size_drew] at z
        have hBd : Below w.heap.size w w1 := by
          refine Below.trans ?_ (hB1.mono ?_)
          · go_grown
          · simp only [World.size_alloc, World.size_drew]; omega
        have q := fun i => d1 wc.heap.size i (by simp only [World.size_alloc, World.size_drew]; omega)
        have s2 : g < w1.heap.size := by omega
        have qn : g ≠ wc.heap.size := by omega
        have qn1 : g ≠ wc.heap.size + 1 := by omega
        go_wp2_with fail
        go_meet
        refine ⟨_, rfl, rfl, ?_, ?_, ?_, by assumption, ?_, ?_, ?_⟩
        · first | (simp only [World.size_alloc, World.size_setCell]; omega) | omega
        · refine ⟨?_, ?_, ?_, ?_, ?_⟩ <;> go_simp
        · refine ⟨?_, ?_, ?_, ?_, ?_⟩ <;> go_simp
        · first | (simp only [World.size_alloc, World.size_setCell]; omega) | omega
        · first | (simp only [World.size_alloc, World.size_setCell]; omega) | omega
        · go_grown
    case rest =>
      clear x0 x1 x2 x3 x4 y0 y1 y2 y3 y4 gl1 gl2 xl1 xl2 gl xl hBc
      obtain ⟨h, rfl, rfl, hl, ⟨z0, z1, z2, z3, z4⟩, ⟨y0, y1, y2, y3, y4⟩, ⟨x0, x1, x2, x3, x4⟩, xl, gl, hBc⟩ := hcut
      have xl1 : b6 < wc.heap.size + 1 := by omega
      have gl1 : g < wc.heap.size + 1 := by omega
      have hl1 : h < wc.heap.size + 1 := by omega
      go_wp2_with (first
        | (go_at_call 18; refine (wit_any _ _ _ _ (by decide) (by decide) (by decide) (by omega) (by omega)).mono ?_; rintro e w1 ⟨rfl, rfl⟩)
        | (go_at_call 3; refine (runs_any _).mono ?_; rintro e w1 ⟨rfl, hB⟩))
      go_ret
      refine ⟨rfl, ?_⟩
      refine Below.trans ?_ (hB.mono ?_)
      · go_grown
      · simp only [World.size_alloc, World.size_drew]; have := hBc.size; omega

set_option maxHeartbeats 20000000 in
set_option maxRecDepth 100000 in
theorem first_k2 (id value n m : Int) (w : World) (hk : wit id 1 6 = 2) (hm : wit id 7 65535 = m) (hn : wit value 16384 16777215 = n)
    (m1 : 7 ≤ m) (m2 : m ≤ 65535) (n1 : 16384 ≤ n) (n2 : n ≤ 16777215) (i1 : -9223372036854775808 ≤ id) (i2 : id ≤ 9223372036854775807) (v1 : -9223372036854775808 ≤ value) (v2 : value ≤ 9223372036854775807)
    (hr : res ⟨4096, 2147483647, 65535, 16384, 2147483647⟩ 2 n = ⟨4096, 2147483647, 65535, 16384, 2147483647⟩) (hc : cv 2 n = 1)
    (hr2 : res ⟨4096, 2147483647, 65535, 16384, 2147483647⟩ m value = ⟨4096, 2147483647, 65535, 16384, 2147483647⟩) (hc2 : cv m value = 0) :
    Calls Try.prog 6 #[.int .i64 id, .int .i64 value] w fun e w' => e = .returned (.bool true) ∧ Below w.heap.size w w' := by
  go_enter Try.func6, Try.ntmps6
  go_wp2_with (first
    | (go_at_call 18; refine (wit_any _ _ _ _ (by decide) (by decide) (by decide) (by omega) (by omega)).mono ?_; rintro e w1 ⟨rfl, rfl⟩)
    | (go_at_call 10; refine (first_any _).mono ?_; rintro e w1 ⟨rfl, rfl⟩; unfold agg5))
  refine wp_forget (fun W => Blk W (w.heap.size + 1) 23 #[.int .i64 4096, .int .i64 2147483647, .int .i64 65535, .int .i64 16384, .int .i64 2147483647] ∧ Below w.heap.size w W) ⟨Blk.new_at (by simp only [World.size_alloc]), by go_grown⟩ ?_
  rintro W ⟨hX, hB0⟩
  have hXl := hX.lt
  have hXl1 : w.heap.size + 1 < W.heap.size + 1 := by omega
  have hXl2 : w.heap.size + 1 < W.heap.size + 1 + 1 := by omega
  have hw := hB0.size
  generalize hq : w.heap.size + 1 = b6 at *
  obtain ⟨x0, x1, x2, x3, x4⟩ : FC W b6 := ⟨hX.cell 0, hX.cell 1, hX.cell 2, hX.cell 3, hX.cell 4⟩
  go_cut [7, 8] (fun s7 s8 wx => ∃ g : Nat, s7 = .pointer (some ⟨g, 0, none⟩) ∧ s8 = .int .i64 1 ∧ g < wx.heap.size ∧ g ≠ b6 ∧ (wx.cell? ⟨g, 0, none⟩ = some (.int .i64 4096) ∧ wx.cell? ⟨g, 1, none⟩ = some (.int .i64 2147483647) ∧ wx.cell? ⟨g, 2, none⟩ = some (.int .i64 65535) ∧ wx.cell? ⟨g, 3, none⟩ = some (.int .i64 16384) ∧ wx.cell? ⟨g, 4, none⟩ = some (.int .i64 2147483647)) ∧ FC wx b6 ∧ b6 < wx.heap.size ∧ Below w.heap.size w wx)
  case first =>
    go_region_held3 (fun w' => FC w' b6) (refine ⟨?_, ?_, ?_, ?_, ?_⟩ <;> go_simp) (first
      | (go_at_call 18; refine (wit_any _ _ _ _ (by decide) (by decide) (by decide) (by omega) (by omega)).mono ?_; rintro e w1 ⟨rfl, rfl⟩)
      | (go_at_call 9; refine (apply_one ⟨4096, 2147483647, 65535, 16384, 2147483647⟩ 2 n _ _ (by omega) (by omega) (by omega) (by omega) (by go_simp) (by go_simp) (by go_simp)).mono ?_; rintro e w1 ⟨rfl, hB1⟩; obtain ⟨d1, f1⟩ := bcell hB1; have s1 : b6 < w1.heap.size := Nat.lt_of_lt_of_le (by go_simp) hB1.size; simp only [hr, hc, hk, hn, cs5]))
    all_goals
      have z := hB1.size
      simp only [World.size_alloc, World.size_drew] at z
      have hBc : Below w.heap.size w w1 := by
        refine Below.trans ?_ (hB1.mono ?_)
        · go_grown
        · simp only [World.size_alloc, World.size_drew]; omega
      have q := fun i => d1 W.heap.size i (by simp only [World.size_alloc, World.size_drew]; omega)
      go_wp2_with fail
      go_meet
      refine ⟨_, rfl, rfl, ?_, ?_, ?_, by assumption, ?_, ?_⟩
      · first | (simp only [World.size_alloc, World.size_setCell]; omega) | omega
      · omega
      · refine ⟨?_, ?_, ?_, ?_, ?_⟩ <;> go_simp
      · first | (simp only [World.size_alloc, World.size_setCell]; omega) | omega
      · go_grown
  case rest =>
    obtain ⟨g, rfl, rfl, gl, gn, ⟨y0, y1, y2, y3, y4⟩, ⟨x0, x1, x2, x3, x4⟩, xl, hBc⟩ := hcut
    go_upto_region 4 with fail
    have gl1 : g < wc.heap.size + 1 := by omega
    have gl2 : g < wc.heap.size + 1 + 1 := by omega
    have xl1 : b6 < wc.heap.size + 1 := by omega
    have xl2 : b6 < wc.heap.size + 1 + 1 := by omega
    go_cut [9, 10] (fun s9 s10 wx => ∃ h : Nat, s9 = .pointer (some ⟨h, 0, none⟩) ∧ s10 = .int .i64 0 ∧ h < wx.heap.size ∧ FC wx h ∧ (wx.cell? ⟨g, 0, none⟩ = some (.int .i64 4096) ∧ wx.cell? ⟨g, 1, none⟩ = some (.int .i64 2147483647) ∧ wx.cell? ⟨g, 2, none⟩ = some (.int .i64 65535) ∧ wx.cell? ⟨g, 3, none⟩ = some (.int .i64 16384) ∧ wx.cell? ⟨g, 4, none⟩ = some (.int .i64 2147483647)) ∧ FC wx b6 ∧ b6 < wx.heap.size ∧ g < wx.heap.size ∧ Below w.heap.size w wx)
    case first =>
      go_region_held3 (fun w' => FC w' b6) (refine ⟨?_, ?_, ?_, ?_, ?_⟩ <;> go_simp) (first
        | (go_at_call 18; refine (wit_any _ _ _ _ (by decide) (by decide) (by decide) (by omega) (by omega)).mono ?_; rintro e w1 ⟨rfl, rfl⟩)
        | (go_at_call 9; refine (apply_one ⟨4096, 2147483647, 65535, 16384, 2147483647⟩ m value _ _ (by omega) (by omega) (by omega) (by omega) (by go_simp) (by go_simp) (by go_simp)).mono ?_; rintro e w1 ⟨rfl, hB1⟩; obtain ⟨d1, f1⟩ := bcell hB1; have s1 : b6 < w1.heap.size := Nat.lt_of_lt_of_le (by go_simp) hB1.size; simp only [hr2, hc2, hm, cs5]))
      all_goals
        have z := hB1.size
        simp only [World.size_alloc, World.size_drew] at z
        have hBd : Below w.heap.size w w1 := by
          refine Below.trans ?_ (hB1.mono ?_)
          · go_grown
          · simp only [World.size_alloc, World.size_drew]; omega
        have q := fun i => d1 wc.heap.size i (by simp only [World.size_alloc, World.size_drew]; omega)
        have s2 : g < w1.heap.size := by omega
        have qn : g ≠ wc.heap.size := by omega
        have qn1 : g ≠ wc.heap.size + 1 := by omega
        go_wp2_with fail
        go_meet
        refine ⟨_, rfl, rfl, ?_, ?_, ?_, by assumption, ?_, ?_, ?_⟩
        · first | (simp only [World.size_alloc, World.size_setCell]; omega) | omega
        · refine ⟨?_, ?_, ?_, ?_, ?_⟩ <;> go_simp
        · refine ⟨?_, ?_, ?_, ?_, ?_⟩ <;> go_simp
        · first | (simp only [World.size_alloc, World.size_setCell]; omega) | omega
        · first | (simp only [World.size_alloc, World.size_setCell]; omega) | omega
        · go_grown
    case rest =>
      clear x0 x1 x2 x3 x4 y0 y1 y2 y3 y4 gl1 gl2 xl1 xl2 gl xl hBc
      obtain ⟨h, rfl, rfl, hl, ⟨z0, z1, z2, z3, z4⟩, ⟨y0, y1, y2, y3, y4⟩, ⟨x0, x1, x2, x3, x4⟩, xl, gl, hBc⟩ := hcut
      have xl1 : b6 < wc.heap.size + 1 := by omega
      have gl1 : g < wc.heap.size + 1 := by omega
      have hl1 : h < wc.heap.size + 1 := by omega
      go_wp2_with (first
        | (go_at_call 18; refine (wit_any _ _ _ _ (by decide) (by decide) (by decide) (by omega) (by omega)).mono ?_; rintro e w1 ⟨rfl, rfl⟩)
        | (go_at_call 3; refine (runs_any _).mono ?_; rintro e w1 ⟨rfl, hB⟩))
      go_ret
      refine ⟨rfl, ?_⟩
      refine Below.trans ?_ (hB.mono ?_)
      · go_grown
      · simp only [World.size_alloc, World.size_drew]; have := hBc.size; omega
end Go.Proofs.Ytdlmocjkhkopgaa
