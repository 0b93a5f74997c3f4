/- GuardLast: the law. -/
import Derived.Test.YtfkkhnceffhilaaLast
namespace Go.Proofs.Ytfkkhnceffhilaa
open Go.ChangeShapes Go.WideShapes Go.ChangeAt Go.RowKit
set_option linter.unusedVariables false
set_option linter.unusedSimpArgs false

theorem both_num (h h' : How) : num3 (both h h') = if (num3 h').1 = 0 then num3 h else num3 h' := by
  cases h' <;> simp [both, num3]
theorem end_lastH (h : How) : (num3 (lastH h)).1 = 0 ∨ ((num3 (lastH h)).1 = 2 ∧ num3 h = (2, 0, 0) ∧ num3 (lastH h) = (2, 0, 0)) := by
  cases h <;> simp [lastH, num3]
theorem last_is (h : How) (hn : (num3 h).1 ≠ 2) : (lastF h).1 = (num3 h).2.1 ∧ (lastF h).2.1 = (num3 h).2.2 ∧ (lastF h).2.2 = decide ((num3 h).1 = 1) ∧ num3 (lastH h) = (0, 0, 0) := by
  cases h <;> simp_all [lastF, lastH, num3]
theorem last_two (h : How) (hn : (num3 h).1 = 2) : num3 (lastH h) = (2, 0, 0) ∧ num3 h = (2, 0, 0) := by
  cases h <;> simp_all [lastH, num3]
set_option maxHeartbeats 8000000 in
set_option maxRecDepth 100000 in
theorem lasts_any (va vb : Value) (La Lb : List Act) (w : World) (hA : AS w va La) (hB : AS w vb Lb) (hoka : AOk La) (hokb : AOk Lb) :
    Calls Try.prog 6 #[va, vb] w fun e w' => e = .returned (.bool true) ∧ Below w.heap.size w w' := by
  have hm := hmf
  obtain ⟨Aa, ca, rfl, _, _⟩ := as_form hA
  obtain ⟨Ab, cb, rfl, _, _⟩ := as_form hB
  obtain ⟨la, hla⟩ : ∃ la, La.length = la := ⟨_, rfl⟩
  obtain ⟨lb, hlb⟩ : ∃ lb, Lb.length = lb := ⟨_, rfl⟩
  have HSA := Lib.hid (fun W => short_any w W _ La hA)
  have HSB := Lib.hid (fun W => short_any w W _ Lb hB)
  have HAA := Lib.hid hA
  have HAB := Lib.hid hB
  rw [hla] at HSA HAA ⊢
  rw [hlb] at HSB HAB ⊢
  have HOKA := Lib.hid hoka
  have HOKB := Lib.hid hokb
  have ha12 := cut_len La 12
  have hb12 := cut_len Lb 12
  clear hA hB hoka hokb hla hlb
  go_enter Try.func6, Try.ntmps6
  go_upto_region 1 with fail
  refine wp_forget (fun X => Hid (Below w.heap.size w X) ∧ w.heap.size + 2 = X.heap.size ∧ Hid (Blk X w.heap.size 32 #[.slice Aa la ca]) ∧ Hid (Blk X (w.heap.size + 1) 32 #[.slice Ab lb cb])) ⟨Lib.hid (by go_grown), by simp only [World.size_alloc], Lib.hid ((Blk.new _ _ _).alloc _), Lib.hid (Blk.new_at (by simp only [World.size_alloc]))⟩ ?_
  rintro X ⟨HX, hXs, HXa, HXb⟩
  have x0 : X.cell? ⟨w.heap.size, 0, none⟩ = some (.slice Aa la ca) := HXa.out.cell 0
  have hlw : w.heap.size < X.heap.size := by omega
  go_wp2_with (go_at_call 28; refine (HSA.out _).mono ?_; rintro e wq ⟨⟨A1, c1, rfl, hA1⟩, rfl⟩)
  refine (told_any w w.heap.size (Nat.le_refl _) 100 (cut La 12) A1 c1 [w.heap.size, w.heap.size + 1] X (.slice none 0 0) [] (by omega) (by omega) hA1 (cut_ok HOKA.out 12) HX.out (Own.nil _ _ _) (by simp; omega) (by show 0 + 3 * _ ≤ 10000; omega) (by omega)).mono ?_
  rintro e w1 ⟨na, ha, r1, rfl, hTa, hO1, hK1⟩
  simp only [List.nil_append] at hO1
  obtain ⟨ax, hax⟩ : ∃ x, (num3 ha).1 = x := ⟨_, rfl⟩
  obtain ⟨ay, hay⟩ : ∃ x, (num3 ha).2.1 = x := ⟨_, rfl⟩
  obtain ⟨az, haz⟩ : ∃ x, (num3 ha).2.2 = x := ⟨_, rfl⟩
  have haE : endV ha = .agg #[.int .i64 ax, .int .i64 ay, .int .i64 az] := by unfold endV; rw [hax, hay, haz]
  rw [haE]
  have HNA := Lib.hid (⟨hax, hay, haz⟩ : (num3 ha).1 = ax ∧ (num3 ha).2.1 = ay ∧ (num3 ha).2.2 = az)
  have HTA := Lib.hid hTa
  have hnal := told_len hTa
  have HW1 := Lib.hid (HX.out.trans (hK1.low (by omega)))
  have h1a := hK1.blk HXa.out (fun hx => hx.2 (by simp))
  have h1b := hK1.blk HXb.out (fun hx => hx.2 (by simp))
  have H1A := Lib.hid h1a
  have H1B := Lib.hid h1b
  have HO1 := Lib.hid hO1
  have hs1 := hK1.size
  obtain ⟨A1', c1', rfl⟩ := hO1.form
  clear hax hay haz haE hTa h1a h1b hO1 hK1 x0
  go_upto_region 2 with fail
  refine wp_forget (fun X2 => Hid (Below w.heap.size w X2) ∧ w1.heap.size + 1 = X2.heap.size ∧ Hid (Blk X2 w.heap.size 32 #[.slice Aa la ca]) ∧ Hid (Blk X2 (w.heap.size + 1) 32 #[.slice Ab lb cb]) ∧ Hid (Own X2 w.heap.size [w1.heap.size, w.heap.size, w.heap.size + 1] (.slice A1' na.length c1') na) ∧ Hid (Blk X2 w1.heap.size 35 #[.int .i64 ax, .int .i64 ay, .int .i64 az]))
    ⟨Lib.hid (HW1.out.alloc (by omega) _), by simp only [World.size_alloc], Lib.hid (H1A.out.alloc _), Lib.hid (H1B.out.alloc _), Lib.hid (HO1.out.alloc _ (Nat.le_refl _)), Lib.hid (Blk.new _ _ _)⟩ ?_
  rintro X2 ⟨HX2, hX2s, H2A, H2B, HO2, H26⟩
  have x1 : X2.cell? ⟨w.heap.size + 1, 0, none⟩ = some (.slice Ab lb cb) := H2B.out.cell 0
  have hlw2 : w.heap.size + 1 < X2.heap.size := by omega
  obtain ⟨b6, hb6⟩ : ∃ b6, w1.heap.size = b6 := ⟨_, rfl⟩
  rw [hb6] at HO2 H26 hX2s hs1 ⊢
  clear hb6 HW1 H1A H1B HO1 HX HXa HXb
  go_wp2_with (go_at_call 28; refine (HSB.out _).mono ?_; rintro e wq ⟨⟨A3, c3, rfl, hA3⟩, rfl⟩)
  refine (told_any w w.heap.size (Nat.le_refl _) 100 (cut Lb 12) A3 c3 [b6, w.heap.size, w.heap.size + 1] X2 (.slice A1' na.length c1') na (by omega) (by omega) hA3 (cut_ok HOKB.out 12) HX2.out HO2.out (by simp; omega) (by omega) (by omega)).mono ?_
  rintro e w3 ⟨nb, hb, r3, rfl, hTb, hO3, hK3⟩
  obtain ⟨bx, hbx⟩ : ∃ x, (num3 hb).1 = x := ⟨_, rfl⟩
  obtain ⟨bq, hby⟩ : ∃ x, (num3 hb).2.1 = x := ⟨_, rfl⟩
  obtain ⟨bz, hbz⟩ : ∃ x, (num3 hb).2.2 = x := ⟨_, rfl⟩
  have hbE : endV hb = .agg #[.int .i64 bx, .int .i64 bq, .int .i64 bz] := by unfold endV; rw [hbx, hby, hbz]
  rw [hbE]
  have HNB := Lib.hid (⟨hbx, hby, hbz⟩ : (num3 hb).1 = bx ∧ (num3 hb).2.1 = bq ∧ (num3 hb).2.2 = bz)
  have HTB := Lib.hid hTb
  have HW3 := Lib.hid (HX2.out.trans (hK3.low (by omega)))
  have h3a := hK3.blk H2A.out (fun hx => hx.2 (by simp))
  have h3b := hK3.blk H2B.out (fun hx => hx.2 (by simp))
  have h36 := hK3.blk H26.out (fun hx => hx.2 (by simp))
  have H3A := Lib.hid h3a
  have H3B := Lib.hid h3b
  have H36 := Lib.hid h36
  have HO3 := Lib.hid hO3
  have hs3 := hK3.size
  have hl36 := h36.lt
  obtain ⟨A2, c2, rfl⟩ := hO3.form
  obtain ⟨q2, hq2⟩ : ∃ q2, (na ++ nb).length = q2 := ⟨_, rfl⟩
  rw [hq2] at HO3 ⊢
  have HQ2 := Lib.hid hq2
  clear hbx hby hbz hbE hTb h3a h3b h36 hO3 hK3 x1 hq2
  go_upto_region 3 with fail
  refine wp_forget (fun X4 => Hid (Below w.heap.size w X4) ∧ w3.heap.size + 1 = X4.heap.size ∧ Hid (Blk X4 w.heap.size 32 #[.slice Aa la ca]) ∧ Hid (Blk X4 (w.heap.size + 1) 32 #[.slice Ab lb cb]) ∧ Hid (Own X4 w.heap.size [] (.slice A2 q2 c2) (na ++ nb)) ∧ Hid (Blk X4 b6 35 #[.int .i64 ax, .int .i64 ay, .int .i64 az]) ∧ Hid (Blk X4 w3.heap.size 35 #[.int .i64 bx, .int .i64 bq, .int .i64 bz]))
    ⟨Lib.hid (HW3.out.alloc (by omega) _), by simp only [World.size_alloc], Lib.hid (H3A.out.alloc _), Lib.hid (H3B.out.alloc _), Lib.hid ((HO3.out.alloc _ (Nat.le_refl _)).fewer (by simp)), Lib.hid (H36.out.alloc _), Lib.hid (Blk.new _ _ _)⟩ ?_
  rintro X4 ⟨HX4, hX4s, H4A, H4B, HO4, H46, H47⟩
  obtain ⟨b7, hb7⟩ : ∃ b7, w3.heap.size = b7 := ⟨_, rfl⟩
  rw [hb7] at H47 hX4s hs3 hl36 ⊢
  clear hb7 HW3 H3A H3B H36 HO3 HX2 H2A H2B HO2 H26
  have p0 : X4.cell? ⟨b6, 0, none⟩ = some (.int .i64 ax) := H46.out.cell 0
  have p1 : X4.cell? ⟨b6, 1, none⟩ = some (.int .i64 ay) := H46.out.cell 1
  have p2 : X4.cell? ⟨b6, 2, none⟩ = some (.int .i64 az) := H46.out.cell 2
  have q0 : X4.cell? ⟨b7, 0, none⟩ = some (.int .i64 bx) := H47.out.cell 0
  have q1 : X4.cell? ⟨b7, 1, none⟩ = some (.int .i64 bq) := H47.out.cell 1
  have q2' : X4.cell? ⟨b7, 2, none⟩ = some (.int .i64 bz) := H47.out.cell 2
  have hl46 := H46.out.lt
  have hl47 := H47.out.lt
  have hX4w : w.heap.size ≤ X4.heap.size := by omega
  obtain ⟨hbo, hhbo⟩ : ∃ hbo, both ha hb = hbo := ⟨_, rfl⟩
  have HBO := Lib.hid hhbo
  have hnum := both_num ha hb
  rw [hhbo, HNB.out.1] at hnum
  by_cases hb0 : bx = 0
  · rw [if_pos hb0] at hnum
    have hb0' : (bx != 0) = false := by simpa using hb0
    have HEN := Lib.hid (⟨by rw [hnum]; exact HNA.out.1, by rw [hnum]; exact HNA.out.2.1, by rw [hnum]; exact HNA.out.2.2⟩ : (num3 hbo).1 = ax ∧ (num3 hbo).2.1 = ay ∧ (num3 hbo).2.2 = az)
    clear hnum hhbo
    go_upto_region 6 with fail
    refine wp_forget (fun X6 => Hid (Below w.heap.size w X6) ∧ Hid (Blk X6 w.heap.size 32 #[.slice Aa la ca]) ∧ Hid (Blk X6 (w.heap.size + 1) 32 #[.slice Ab lb cb]) ∧ Hid (Own X6 w.heap.size [] (.slice A2 q2 c2) (na ++ nb)) ∧ Hid (Blk X6 X4.heap.size 35 #[.int .i64 ax, .int .i64 ay, .int .i64 az]) ∧ w.heap.size ≤ X6.heap.size) ⟨Lib.hid (HX4.out.alloc hX4w _), Lib.hid (H4A.out.alloc _), Lib.hid (H4B.out.alloc _), Lib.hid (HO4.out.kept ((Kept.refl (fun _ => False) X4).alloc _) (fun _ _ h => h)), Lib.hid (Blk.new _ _ _), by simp only [World.size_alloc]; omega⟩ ?_
    rintro X6 ⟨HB6, HA6, HBb6, HO6, HE6, hs6⟩
    have hl6 := HE6.out.lt
    have hP6 : LastP X6 X6.heap.size [] 0 0 false [] (((X6.alloc (.cells #[.slice none 0 0] 33)).alloc (.cells #[.int .i64 0, .int .i64 0] 23)).alloc (.cells #[.bool false] 4)) :=
      ⟨⟨⟨_, ((Blk.new _ _ _).alloc _).alloc _, by simp, Own.nil _ _ _⟩, (((Below.refl _ _).alloc (Nat.le_refl _) _).alloc (by simp only [World.size_alloc]; omega) _).alloc (by simp only [World.size_alloc]; omega) _, by simp⟩, ⟨(Blk.new_at (by simp only [World.size_alloc])).alloc _, by simp⟩, ⟨Blk.new_at (by simp only [World.size_alloc]), by simp⟩⟩
    have HCG := Lib.hid (caught_good (c := X6.heap.size) (lastP_good X6 X6.heap.size [] 0 0 false) (fun h => good_and (good_const _) (lastP_good X6 X6.heap.size (na ++ nb) _ _ _)) (by intro X; simp [go_sem]) (run31 X6 X6.heap.size w.heap.size (w.heap.size + 1) _ _ La Lb na nb ha hb (Nat.le_refl _) HA6.out HBb6.out (HAA.out.below HB6.out (Nat.le_refl _)) (HAB.out.below HB6.out (Nat.le_refl _)) HOKA.out HOKB.out HTA.out HTB.out) [] _ (by simp) hP6)
    clear hP6 p0 p1 p2 q0 q1 q2'
    obtain ⟨b8, hb8⟩ : ∃ b8, X4.heap.size = b8 := ⟨_, rfl⟩
    rw [hb8] at HE6 hl6 ⊢
    clear hb8 hX4s hl46 hl47 hX4w
    go_wp2_with fail
    refine HCG.out.mono ?_
    rintro e w5 ⟨h', hce, hk5, rfl, ⟨⟨r5, hb5, _, ho5⟩, hbl5, _⟩, ⟨hf5, _⟩, ⟨hi5, _⟩⟩
    rw [HBO.out] at hce hf5 hi5
    have hE5 := HE6.out.below hbl5 hl6
    have hO5 := HO6.out.below hbl5
    have hw5 : Below w.heap.size w w5 := HB6.out.trans (hbl5.mono hs6)
    have HB5 := Lib.hid hb5
    have HO5 := Lib.hid hO5
    have HOO5 := Lib.hid ho5
    have HW5 := Lib.hid hw5
    have hs5 := hbl5.size
    have hlE := hE5.lt
    have hlC := hb5.lt
    have hlF : X6.heap.size + 1 < w5.heap.size := hf5.lt
    have hlI : X6.heap.size + 1 + 1 < w5.heap.size := hi5.lt
    have e0 : w5.cell? ⟨b8, 0, none⟩ = some (.int .i64 ax) := hE5.cell 0
    have e1 : w5.cell? ⟨b8, 1, none⟩ = some (.int .i64 ay) := hE5.cell 1
    have e2 : w5.cell? ⟨b8, 2, none⟩ = some (.int .i64 az) := hE5.cell 2
    have ec : w5.cell? ⟨X6.heap.size, 0, none⟩ = some r5 := hb5.cell 0
    have ef0 : w5.cell? ⟨X6.heap.size + 1, 0, none⟩ = some (.int .i64 (lastF hbo).1) := hf5.cell 0
    have ef1 : w5.cell? ⟨X6.heap.size + 1, 1, none⟩ = some (.int .i64 (lastF hbo).2.1) := hf5.cell 1
    have ei : w5.cell? ⟨X6.heap.size + 1 + 1, 0, none⟩ = some (.bool (lastF hbo).2.2) := hi5.cell 0
    obtain ⟨A5, c5, rfl⟩ := ho5.form
    rw [HQ2.out] at HB5 HOO5 ec
    have hws5 := hw5.size
    clear hk5 hb5 ho5 hbl5 hE5 hO5 hw5 hf5 hi5
    by_cases h2 : ax = 2
    · have h22 := last_two hbo (HEN.out.1.trans h2)
      have hy0 : ay = 0 := by have := HEN.out.2.1; rw [h22.2] at this; exact this.symm
      have hz0 : az = 0 := by have := HEN.out.2.2; rw [h22.2] at this; exact this.symm
      unfold CaughtEnd endV at hce
      rw [h22.1] at hce
      subst hce
      rw [h2] at e0
      rw [hy0] at e1
      rw [hz0] at e2
      clear h22 hy0 hz0 h2 hb0 hb0' ef0 ef1 ei
      go_wp2_with (first
        | (go_at_call 27; refine (same_any _ _ _ _ _ _ _ (na ++ nb) (HOO5.out.kept ((Kept.refl (fun _ => False) w5).alloc _) (fun _ _ h => h)) (HO5.out.kept ((Kept.refl (fun _ => False) w5).alloc _) (fun _ _ h => h))).mono ?_; rintro e w6 ⟨rfl, hb6⟩; have hB6 : Below w.heap.size w w6 := (HW5.out.alloc (by omega) _).trans (hb6.mono (by simp only [World.size_alloc]; omega)); have hs7 := hB6.size; obtain ⟨d6, d6'⟩ := bcell hb6)
        | (go_at_call 3; refine (runs_any _).mono ?_; rintro e w7 ⟨rfl, hb7⟩; have hB7 : Below w.heap.size w w7 := hB6.trans (hb7.mono hs7)))
      go_ret
      exact ⟨rfl, hB7⟩
    · have h22 := last_is hbo (by rw [HEN.out.1]; exact h2)
      unfold CaughtEnd endV at hce
      rw [h22.2.2.2] at hce
      subst hce
      rw [h22.1, HEN.out.2.1] at ef0
      rw [h22.2.1, HEN.out.2.2] at ef1
      rw [h22.2.2.1, HEN.out.1] at ei
      have h2' : (ax == 2) = false := by simpa using h2
      clear h22 hb0 hb0'
      by_cases h1 : ax = 1
      · rw [h1] at e0 ei
        have ei' : w5.cell? ⟨X6.heap.size + 1 + 1, 0, none⟩ = some (.bool true) := ei
        clear ei h1 h2 h2'
        go_wp2_with (first
          | (go_at_call 27; refine (same_any _ _ _ _ _ _ _ (na ++ nb) (HOO5.out.kept ((Kept.refl (fun _ => False) w5).alloc _) (fun _ _ h => h)) (HO5.out.kept ((Kept.refl (fun _ => False) w5).alloc _) (fun _ _ h => h))).mono ?_; rintro e w6 ⟨rfl, hb6⟩; have hB6 : Below w.heap.size w w6 := (HW5.out.alloc (by omega) _).trans (hb6.mono (by simp only [World.size_alloc]; omega)); have hs7 := hB6.size; obtain ⟨d6, d6'⟩ := bcell hb6)
          | (go_at_call 3; refine (runs_any _).mono ?_; rintro e w7 ⟨rfl, hb7⟩; have hB7 : Below w.heap.size w w7 := hB6.trans (hb7.mono hs7)))
        go_ret
        exact ⟨rfl, hB7⟩
      · have h1' : (ax == 1) = false := by simpa using h1
        have ei' : w5.cell? ⟨X6.heap.size + 1 + 1, 0, none⟩ = some (.bool false) := by rw [ei, decide_eq_false h1]
        clear ei h1 h2
        go_wp2_with (first
          | (go_at_call 27; refine (same_any _ _ _ _ _ _ _ (na ++ nb) (HOO5.out.kept ((Kept.refl (fun _ => False) w5).alloc _) (fun _ _ h => h)) (HO5.out.kept ((Kept.refl (fun _ => False) w5).alloc _) (fun _ _ h => h))).mono ?_; rintro e w6 ⟨rfl, hb6⟩; have hB6 : Below w.heap.size w w6 := (HW5.out.alloc (by omega) _).trans (hb6.mono (by simp only [World.size_alloc]; omega)); have hs7 := hB6.size; obtain ⟨d6, d6'⟩ := bcell hb6)
          | (go_at_call 3; refine (runs_any _).mono ?_; rintro e w7 ⟨rfl, hb7⟩; have hB7 : Below w.heap.size w w7 := hB6.trans (hb7.mono hs7)))
        go_ret
        exact ⟨rfl, hB7⟩
  · rw [if_neg hb0] at hnum
    have hb0' : (bx != 0) = true := by simpa using hb0
    have HEN := Lib.hid (⟨by rw [hnum]; exact HNB.out.1, by rw [hnum]; exact HNB.out.2.1, by rw [hnum]; exact HNB.out.2.2⟩ : (num3 hbo).1 = bx ∧ (num3 hbo).2.1 = bq ∧ (num3 hbo).2.2 = bz)
    clear hnum hhbo
    go_upto_region 6 with fail
    refine wp_forget (fun X6 => Hid (Below w.heap.size w X6) ∧ Hid (Blk X6 w.heap.size 32 #[.slice Aa la ca]) ∧ Hid (Blk X6 (w.heap.size + 1) 32 #[.slice Ab lb cb]) ∧ Hid (Own X6 w.heap.size [] (.slice A2 q2 c2) (na ++ nb)) ∧ Hid (Blk X6 X4.heap.size 35 #[.int .i64 bx, .int .i64 bq, .int .i64 bz]) ∧ w.heap.size ≤ X6.heap.size) ⟨Lib.hid (HX4.out.alloc hX4w _), Lib.hid (H4A.out.alloc _), Lib.hid (H4B.out.alloc _), Lib.hid (HO4.out.kept ((Kept.refl (fun _ => False) X4).alloc _) (fun _ _ h => h)), Lib.hid (Blk.new _ _ _), by simp only [World.size_alloc]; omega⟩ ?_
    rintro X6 ⟨HB6, HA6, HBb6, HO6, HE6, hs6⟩
    have hl6 := HE6.out.lt
    have hP6 : LastP X6 X6.heap.size [] 0 0 false [] (((X6.alloc (.cells #[.slice none 0 0] 33)).alloc (.cells #[.int .i64 0, .int .i64 0] 23)).alloc (.cells #[.bool false] 4)) :=
      ⟨⟨⟨_, ((Blk.new _ _ _).alloc _).alloc _, by simp, Own.nil _ _ _⟩, (((Below.refl _ _).alloc (Nat.le_refl _) _).alloc (by simp only [World.size_alloc]; omega) _).alloc (by simp only [World.size_alloc]; omega) _, by simp⟩, ⟨(Blk.new_at (by simp only [World.size_alloc])).alloc _, by simp⟩, ⟨Blk.new_at (by simp only [World.size_alloc]), by simp⟩⟩
    have HCG := Lib.hid (caught_good (c := X6.heap.size) (lastP_good X6 X6.heap.size [] 0 0 false) (fun h => good_and (good_const _) (lastP_good X6 X6.heap.size (na ++ nb) _ _ _)) (by intro X; simp [go_sem]) (run31 X6 X6.heap.size w.heap.size (w.heap.size + 1) _ _ La Lb na nb ha hb (Nat.le_refl _) HA6.out HBb6.out (HAA.out.below HB6.out (Nat.le_refl _)) (HAB.out.below HB6.out (Nat.le_refl _)) HOKA.out HOKB.out HTA.out HTB.out) [] _ (by simp) hP6)
    clear hP6 p0 p1 p2 q0 q1 q2'
    obtain ⟨b8, hb8⟩ : ∃ b8, X4.heap.size = b8 := ⟨_, rfl⟩
    rw [hb8] at HE6 hl6 ⊢
    clear hb8 hX4s hl46 hl47 hX4w
    go_wp2_with fail
    refine HCG.out.mono ?_
    rintro e w5 ⟨h', hce, hk5, rfl, ⟨⟨r5, hb5, _, ho5⟩, hbl5, _⟩, ⟨hf5, _⟩, ⟨hi5, _⟩⟩
    rw [HBO.out] at hce hf5 hi5
    have hE5 := HE6.out.below hbl5 hl6
    have hO5 := HO6.out.below hbl5
    have hw5 : Below w.heap.size w w5 := HB6.out.trans (hbl5.mono hs6)
    have HB5 := Lib.hid hb5
    have HO5 := Lib.hid hO5
    have HOO5 := Lib.hid ho5
    have HW5 := Lib.hid hw5
    have hs5 := hbl5.size
    have hlE := hE5.lt
    have hlC := hb5.lt
    have hlF : X6.heap.size + 1 < w5.heap.size := hf5.lt
    have hlI : X6.heap.size + 1 + 1 < w5.heap.size := hi5.lt
    have e0 : w5.cell? ⟨b8, 0, none⟩ = some (.int .i64 bx) := hE5.cell 0
    have e1 : w5.cell? ⟨b8, 1, none⟩ = some (.int .i64 bq) := hE5.cell 1
    have e2 : w5.cell? ⟨b8, 2, none⟩ = some (.int .i64 bz) := hE5.cell 2
    have ec : w5.cell? ⟨X6.heap.size, 0, none⟩ = some r5 := hb5.cell 0
    have ef0 : w5.cell? ⟨X6.heap.size + 1, 0, none⟩ = some (.int .i64 (lastF hbo).1) := hf5.cell 0
    have ef1 : w5.cell? ⟨X6.heap.size + 1, 1, none⟩ = some (.int .i64 (lastF hbo).2.1) := hf5.cell 1
    have ei : w5.cell? ⟨X6.heap.size + 1 + 1, 0, none⟩ = some (.bool (lastF hbo).2.2) := hi5.cell 0
    obtain ⟨A5, c5, rfl⟩ := ho5.form
    rw [HQ2.out] at HB5 HOO5 ec
    have hws5 := hw5.size
    clear hk5 hb5 ho5 hbl5 hE5 hO5 hw5 hf5 hi5
    by_cases h2 : bx = 2
    · have h22 := last_two hbo (HEN.out.1.trans h2)
      have hy0 : bq = 0 := by have := HEN.out.2.1; rw [h22.2] at this; exact this.symm
      have hz0 : bz = 0 := by have := HEN.out.2.2; rw [h22.2] at this; exact this.symm
      unfold CaughtEnd endV at hce
      rw [h22.1] at hce
      subst hce
      rw [h2] at e0
      rw [hy0] at e1
      rw [hz0] at e2
      clear h22 hy0 hz0 h2 hb0 hb0' ef0 ef1 ei
      go_wp2_with (first
        | (go_at_call 27; refine (same_any _ _ _ _ _ _ _ (na ++ nb) (HOO5.out.kept ((Kept.refl (fun _ => False) w5).alloc _) (fun _ _ h => h)) (HO5.out.kept ((Kept.refl (fun _ => False) w5).alloc _) (fun _ _ h => h))).mono ?_; rintro e w6 ⟨rfl, hb6⟩; have hB6 : Below w.heap.size w w6 := (HW5.out.alloc (by omega) _).trans (hb6.mono (by simp only [World.size_alloc]; omega)); have hs7 := hB6.size; obtain ⟨d6, d6'⟩ := bcell hb6)
        | (go_at_call 3; refine (runs_any _).mono ?_; rintro e w7 ⟨rfl, hb7⟩; have hB7 : Below w.heap.size w w7 := hB6.trans (hb7.mono hs7)))
      go_ret
      exact ⟨rfl, hB7⟩
    · have h22 := last_is hbo (by rw [HEN.out.1]; exact h2)
      unfold CaughtEnd endV at hce
      rw [h22.2.2.2] at hce
      subst hce
      rw [h22.1, HEN.out.2.1] at ef0
      rw [h22.2.1, HEN.out.2.2] at ef1
      rw [h22.2.2.1, HEN.out.1] at ei
      have h2' : (bx == 2) = false := by simpa using h2
      clear h22 hb0 hb0'
      by_cases h1 : bx = 1
      · rw [h1] at e0 ei
        have ei' : w5.cell? ⟨X6.heap.size + 1 + 1, 0, none⟩ = some (.bool true) := ei
        clear ei h1 h2 h2'
        go_wp2_with (first
          | (go_at_call 27; refine (same_any _ _ _ _ _ _ _ (na ++ nb) (HOO5.out.kept ((Kept.refl (fun _ => False) w5).alloc _) (fun _ _ h => h)) (HO5.out.kept ((Kept.refl (fun _ => False) w5).alloc _) (fun _ _ h => h))).mono ?_; rintro e w6 ⟨rfl, hb6⟩; have hB6 : Below w.heap.size w w6 := (HW5.out.alloc (by omega) _).trans (hb6.mono (by simp only [World.size_alloc]; omega)); have hs7 := hB6.size; obtain ⟨d6, d6'⟩ := bcell hb6)
          | (go_at_call 3; refine (runs_any _).mono ?_; rintro e w7 ⟨rfl, hb7⟩; have hB7 : Below w.heap.size w w7 := hB6.trans (hb7.mono hs7)))
        go_ret
        exact ⟨rfl, hB7⟩
      · have h1' : (bx == 1) = false := by simpa using h1
        have ei' : w5.cell? ⟨X6.heap.size + 1 + 1, 0, none⟩ = some (.bool false) := by rw [ei, decide_eq_false h1]
        clear ei h1 h2
        go_wp2_with (first
          | (go_at_call 27; refine (same_any _ _ _ _ _ _ _ (na ++ nb) (HOO5.out.kept ((Kept.refl (fun _ => False) w5).alloc _) (fun _ _ h => h)) (HO5.out.kept ((Kept.refl (fun _ => False) w5).alloc _) (fun _ _ h => h))).mono ?_; rintro e w6 ⟨rfl, hb6⟩; have hB6 : Below w.heap.size w w6 := (HW5.out.alloc (by omega) _).trans (hb6.mono (by simp only [World.size_alloc]; omega)); have hs7 := hB6.size; obtain ⟨d6, d6'⟩ := bcell hb6)
          | (go_at_call 3; refine (runs_any _).mono ?_; rintro e w7 ⟨rfl, hb7⟩; have hB7 : Below w.heap.size w w7 := hB6.trans (hb7.mono hs7)))
        go_ret
        exact ⟨rfl, hB7⟩
end Go.Proofs.Ytfkkhnceffhilaa
