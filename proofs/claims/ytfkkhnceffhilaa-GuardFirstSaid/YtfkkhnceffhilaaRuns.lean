/- The runs of chapter 1. -/
import Derived.Test.YtfkkhnceffhilaaFirst
namespace Go.Proofs.Ytfkkhnceffhilaa
open Go.ChangeShapes Go.WideShapes Go.ChangeAt Go.RowKit
set_option linter.unusedVariables false
set_option linter.unusedSimpArgs false

/-- A function that does nothing but end. -/
def Lit (fid : Nat) (h0 : How) : Prop := ∀ W, Calls Try.prog fid #[] W fun e w' => Ends h0 e ∧ W = w'
def LitD (fid : Nat) (h0 : How) : Prop := ∀ u W, CallsD Try.prog fid #[] u W fun e u' w' => u' = u ∧ Ends h0 e ∧ W = w'
theorem lit9 : Lit 9 .fine := fun W => by
  go_enter Try.func9, Try.ntmps9
  go_wp2
  go_end0
  exact ⟨rfl, rfl⟩
theorem litD9 : LitD 9 .fine := fun u W => by
  go_enter_d Try.func9, Try.ntmps9
  go_wp2
  go_end0
  exact ⟨rfl, rfl⟩
theorem lit13 : Lit 13 .fine := fun W => by
  go_enter Try.func13, Try.ntmps13
  go_wp2_with (go_at_call 14; refine (must_yes 1 1 _).mono ?_; rintro e w' ⟨rfl, rfl⟩)
  go_end0
  exact ⟨rfl, rfl⟩
theorem lit15 : Lit 15 (.fault 2 9) := fun W => by
  go_enter Try.func15, Try.ntmps15
  go_wp2_with (go_at_call 14; refine (must_no 2 9 _).mono ?_; rintro e w' ⟨⟨l, rfl, hl⟩, rfl⟩)
  exact ⟨rfl, ⟨l, rfl, hl⟩, rfl⟩
theorem lit11 : Lit 11 (.fault 3 7) := fun W => by
  go_enter Try.func11, Try.ntmps11
  go_wp2_with (go_at_call 12; refine (raise_any 3 7 _).mono ?_; rintro e w' ⟨⟨l, rfl, hl⟩, rfl⟩)
  exact ⟨rfl, ⟨l, rfl, hl⟩, rfl⟩
theorem lit17 : Lit 17 (.fault 4 1) := fun W => by
  go_enter Try.func17, Try.ntmps17
  go_wp2_with (go_at_call 12; refine (raise_any 4 1 _).mono ?_; rintro e w' ⟨⟨l, rfl, hl⟩, rfl⟩)
  exact ⟨rfl, ⟨l, rfl, hl⟩, rfl⟩
theorem lit18 : Lit 18 (.fault 5 1) := fun W => by
  go_enter Try.func18, Try.ntmps18
  go_wp2_with (go_at_call 12; refine (raise_any 5 1 _).mono ?_; rintro e w' ⟨⟨l, rfl, hl⟩, rfl⟩)
  exact ⟨rfl, ⟨l, rfl, hl⟩, rfl⟩
theorem lit20 : Lit 20 (.fault 1 1) := fun W => by
  go_enter Try.func20, Try.ntmps20
  go_wp2_with (go_at_call 12; refine (raise_any 1 1 _).mono ?_; rintro e w' ⟨⟨l, rfl, hl⟩, rfl⟩)
  exact ⟨rfl, ⟨l, rfl, hl⟩, rfl⟩
theorem lit21 : Lit 21 (.fault 2 2) := fun W => by
  go_enter Try.func21, Try.ntmps21
  go_wp2_with (go_at_call 12; refine (raise_any 2 2 _).mono ?_; rintro e w' ⟨⟨l, rfl, hl⟩, rfl⟩)
  exact ⟨rfl, ⟨l, rfl, hl⟩, rfl⟩
theorem lit22 : Lit 22 (.fault 1 1) := fun W => by
  go_enter Try.func22, Try.ntmps22
  go_wp2_with (go_at_call 12; refine (raise_any 1 1 _).mono ?_; rintro e w' ⟨⟨l, rfl, hl⟩, rfl⟩)
  exact ⟨rfl, ⟨l, rfl, hl⟩, rfl⟩
theorem litD21 : LitD 21 (.fault 2 2) := fun u W => by
  go_enter_d Try.func21, Try.ntmps21
  go_wp2_with (go_at_call 12; refine (raise_any 2 2 _).mono ?_; rintro e w' ⟨⟨l, rfl, hl⟩, rfl⟩)
  exact ⟨rfl, ⟨l, rfl, hl⟩, rfl⟩
theorem good_const (p : Prop) : Good (fun _ _ => p) := fun _ _ _ _ h _ _ => h
theorem call_lit {fid : Nat} {h0 : How} (hen : ∀ W, (callFunc fid #[]).run Try.prog W = .ok (.enter fid #[]) W) (hf : Lit fid h0) (w : World) :
    Calls Try.prog 10 #[.func (.func fid) #[] #[]] w fun e w' => CallEnd h0 e ∧ Below w.heap.size w w' := by
  refine (call_good (c := w.heap.size) (P := fun _ _ => True) (Q := fun h _ _ => h = h0) (good_const _) (fun _ => good_const _) hen ?_ [] w (by simp) trivial).mono ?_
  · intro S W _ _
    refine (hf W).mono ?_
    rintro e w' ⟨he, rfl⟩
    exact ⟨h0, he, Kept.refl _ _, rfl⟩
  · rintro e w' ⟨h, hce, hk, rfl⟩
    exact ⟨hce, hk.low (Nat.le_refl _)⟩
theorem last_lit {fF fG : Nat} {h1 h2 : How} (heF : ∀ W, (callFunc fF #[]).run Try.prog W = .ok (.enter fF #[]) W) (heG : ∀ W, (callFunc fG #[]).run Try.prog W = .ok (.enter fG #[]) W) (hf : Lit fF h1) (hg : LitD fG h2) (w : World) :
    Calls Try.prog 19 #[.func (.func fF) #[] #[], .func (.func fG) #[] #[]] w fun e w' => CallEnd (both h1 h2) e ∧ Below w.heap.size w w' := by
  refine (last_good (c := w.heap.size) (P := fun _ _ => True) (Q := fun h _ _ => h = h1) (R := fun h h' _ _ => h = h1 ∧ h' = h2) (good_const _) (fun _ => good_const _) (fun _ _ => good_const _) heF heG ?_ ?_ [] w (by simp) trivial).mono ?_
  · intro S W _ _
    refine (hf W).mono ?_
    rintro e w' ⟨he, rfl⟩
    exact ⟨h1, he, Kept.refl _ _, rfl⟩
  · rintro h S W _ rfl u
    refine (hg u W).mono ?_
    rintro e u' w' ⟨hu, he, rfl⟩
    exact ⟨hu, h2, he, Kept.refl _ _, rfl, rfl⟩
  · rintro e w' ⟨h, h', hce, hk, rfl, rfl⟩
    exact ⟨hce, hk.low (Nat.le_refl _)⟩
/-- The three functions of a row. -/
def f3 : Nat → Nat | 0 => 9 | 1 => 17 | _ => 18
theorem first_nil (w : World) : Calls Try.prog 16 #[.slice none 0 0] w fun e w' => e = .returned (.tuple #[.int .i64 (-1), .agg #[.int .i64 0, .int .i64 0], .bool false]) ∧ Below w.heap.size w w' := by
  refine (first_good (c := w.heap.size) (n := 0) (fid := fun _ => 0) (cp := fun _ => #[]) (P := fun _ _ _ => True) (Q := fun _ _ _ _ => True) (fun _ => good_const _) (fun _ _ => good_const _) (fun i _ h => absurd h (Nat.not_lt_zero _)) (fun _ _ _ _ => trivial)
    (fun i h => absurd h (Nat.not_lt_zero _)) none 0 [] w (by simp) trivial ⟨none, 0, rfl, Nat.le_refl _, Nat.zero_le _, fun h => absurd h (Nat.lt_irrefl _)⟩ (fun a h => by cases h)).mono ?_
  rintro e w' ⟨hk, he⟩
  refine ⟨?_, hk.low (Nat.le_refl _)⟩
  rcases he with ⟨he, _⟩ | ⟨i, _, _, hi, _⟩ | ⟨i, hi, _⟩
  · exact he
  · exact absurd hi (Nat.not_lt_zero _)
  · exact absurd hi (Nat.not_lt_zero _)
theorem first_three (b : Nat) (w : World) (hb : Blk w b 1 #[.func (.func 9) #[] #[], .func (.func 17) #[] #[], .func (.func 18) #[] #[]]) : Calls Try.prog 16 #[.slice (some ⟨b, 0, none⟩) 3 3] w fun e w' =>
    e = .returned (.tuple #[.int .i64 1, .agg #[.int .i64 4, .int .i64 1], .bool true]) ∧ Below w.heap.size w w' := by
  have hl := hb.lt
  refine (first_good (c := w.heap.size) (n := 3) (fid := f3) (cp := fun _ => #[]) (P := fun i _ _ => i < 2) (Q := fun i h _ _ => i = 0 ∧ h = .fine ∨ i = 1 ∧ h = .fault 4 1) (fun _ => good_const _) (fun _ _ => good_const _) ?_ ?_ ?_ (some ⟨b, 0, none⟩) 3 [] w (by simp) (by decide) ?_ ?_).mono ?_
  · intro i W hi
    match i, hi with
    | 0, _ => show (callFunc 9 #[]).run Try.prog W = _; simp [go_sem, f3]
    | 1, _ => show (callFunc 17 #[]).run Try.prog W = _; simp [go_sem, f3]
    | 2, _ => show (callFunc 18 #[]).run Try.prog W = _; simp [go_sem, f3]
  · rintro i S W (⟨rfl, _⟩ | ⟨rfl, h⟩)
    · decide
    · cases h
  · intro i hi S W _ hp
    match i, hp with
    | 0, _ =>
      refine (lit9 W).mono ?_
      rintro e w' ⟨he, rfl⟩
      exact ⟨.fine, he, Kept.refl _ _, .inl ⟨rfl, rfl⟩⟩
    | 1, _ =>
      refine (lit17 W).mono ?_
      rintro e w' ⟨he, rfl⟩
      exact ⟨.fault 4 1, he, Kept.refl _ _, .inr ⟨rfl, rfl⟩⟩
  · refine ⟨_, _, rfl, by omega, by unfold maxLen; omega, fun _ => ⟨b, 0, rfl, hl, fun i j hi hj => ?_⟩⟩
    obtain rfl : j = 0 := by omega
    match i, hi with
    | 0, _ => exact hb.cell 0
    | 1, _ => exact hb.cell 1
    | 2, _ => exact hb.cell 2
  · rintro a h hx
    cases h
    have : w.heap.size ≤ b := hx.1
    omega
  · rintro e w' ⟨hk, he⟩
    refine ⟨?_, hk.low (Nat.le_refl _)⟩
    rcases he with ⟨_, h⟩ | ⟨i, c, a, hi, rfl, h⟩ | ⟨i, hi, _, h⟩
    · exact absurd h (by decide)
    · rcases h with ⟨_, h⟩ | ⟨rfl, h⟩
      · cases h
      · cases h; rfl
    · rcases h with ⟨_, h⟩ | ⟨_, h⟩ <;> cases h

set_option maxHeartbeats 8000000 in
set_option maxRecDepth 100000 in
theorem runs_any (w : World) : Calls Try.prog 3 #[] w fun e w' => e = .returned (.bool true) ∧ Below w.heap.size w w' := by
  go_enter Try.func3, Try.ntmps3
  go_upto_region 3 with (go_at_call 10; refine (call_lit (by intro W; simp [go_sem]) lit11 _).mono ?_; rintro e v0 ⟨rfl, hb0⟩)
  have hz0 := hb0.size
  have hA0 : Below w.heap.size w v0 := hb0
  refine wp_forget (fun X => Below w.heap.size w X ∧ Hid (Blk X v0.heap.size 23 #[.int .i64 3, .int .i64 7])) ⟨hA0.alloc hA0.size _, Lib.hid (Blk.new _ _ _)⟩ ?_
  rintro W1 ⟨hA0', HK0_0⟩
  have hs0 := hA0'.size
  clear hA0 hb0 hz0
  generalize v0.heap.size = g0 at *
  go_upto_region 4 with (go_at_call 10; refine (call_lit (by intro W; simp [go_sem]) lit9 _).mono ?_; rintro e v1 ⟨rfl, hb1⟩)
  have hz1 := hb1.size
  have hB1 := hb1
  have hA1 : Below w.heap.size w v1 := hA0'.trans (hb1.mono hs0)
  refine wp_forget (fun X => Below w.heap.size w X ∧ Hid (Blk X g0 23 #[.int .i64 3, .int .i64 7]) ∧ Hid (Blk X v1.heap.size 23 #[.int .i64 0, .int .i64 0])) ⟨hA1.alloc hA1.size _, Lib.hid ((HK0_0.out.below hB1 HK0_0.out.lt).alloc _), Lib.hid (Blk.new _ _ _)⟩ ?_
  rintro W2 ⟨hA1', HK1_0, HK1_1⟩
  have hs1 := hA1'.size
  clear hA1 hb1 hz1 hB1 HK0_0 hA0' hs0
  generalize v1.heap.size = g1 at *
  go_upto_region 5 with (go_at_call 10; refine (call_lit (by intro W; simp [go_sem]) lit13 _).mono ?_; rintro e v2 ⟨rfl, hb2⟩)
  have hz2 := hb2.size
  have hB2 := hb2
  have hA2 : Below w.heap.size w v2 := hA1'.trans (hb2.mono hs1)
  refine wp_forget (fun X => Below w.heap.size w X ∧ Hid (Blk X g0 23 #[.int .i64 3, .int .i64 7]) ∧ Hid (Blk X g1 23 #[.int .i64 0, .int .i64 0]) ∧ Hid (Blk X v2.heap.size 23 #[.int .i64 0, .int .i64 0])) ⟨hA2.alloc hA2.size _, Lib.hid ((HK1_0.out.below hB2 HK1_0.out.lt).alloc _), Lib.hid ((HK1_1.out.below hB2 HK1_1.out.lt).alloc _), Lib.hid (Blk.new _ _ _)⟩ ?_
  rintro W3 ⟨hA2', HK2_0, HK2_1, HK2_2⟩
  have hs2 := hA2'.size
  clear hA2 hb2 hz2 hB2 HK1_0 HK1_1 hA1' hs1
  generalize v2.heap.size = g2 at *
  go_upto_region 6 with (go_at_call 10; refine (call_lit (by intro W; simp [go_sem]) lit15 _).mono ?_; rintro e v3 ⟨rfl, hb3⟩)
  have hz3 := hb3.size
  have hB3 := hb3
  have hA3 : Below w.heap.size w v3 := hA2'.trans (hb3.mono hs2)
  refine wp_forget (fun X => Below w.heap.size w X ∧ Hid (Blk X g0 23 #[.int .i64 3, .int .i64 7]) ∧ Hid (Blk X g1 23 #[.int .i64 0, .int .i64 0]) ∧ Hid (Blk X g2 23 #[.int .i64 0, .int .i64 0]) ∧ Hid (Blk X v3.heap.size 23 #[.int .i64 2, .int .i64 9])) ⟨hA3.alloc hA3.size _, Lib.hid ((HK2_0.out.below hB3 HK2_0.out.lt).alloc _), Lib.hid ((HK2_1.out.below hB3 HK2_1.out.lt).alloc _), Lib.hid ((HK2_2.out.below hB3 HK2_2.out.lt).alloc _), Lib.hid (Blk.new _ _ _)⟩ ?_
  rintro W4 ⟨hA3', HK3_0, HK3_1, HK3_2, HK3_3⟩
  have hs3 := hA3'.size
  clear hA3 hb3 hz3 hB3 HK2_0 HK2_1 HK2_2 hA2' hs2
  generalize v3.heap.size = g3 at *
  go_upto_region 7 with (go_at_call 16; refine (first_three _ _ (Blk.new _ _ _)).mono ?_; rintro e v4 ⟨rfl, hb4⟩)
  have hz4 := hb4.size
  simp only [World.size_alloc] at hb4 hz4
  have hB4 : Below W4.heap.size W4 v4 := Below.trans ((Below.refl _ _).alloc (Nat.le_refl _) _) (hb4.mono (by omega))
  have hA4 : Below w.heap.size w v4 := hA3'.trans (hB4.mono hs3)
  refine wp_forget (fun X => Below w.heap.size w X ∧ Hid (Blk X g0 23 #[.int .i64 3, .int .i64 7]) ∧ Hid (Blk X g1 23 #[.int .i64 0, .int .i64 0]) ∧ Hid (Blk X g2 23 #[.int .i64 0, .int .i64 0]) ∧ Hid (Blk X g3 23 #[.int .i64 2, .int .i64 9]) ∧ Hid (Blk X v4.heap.size 23 #[.int .i64 4, .int .i64 1])) ⟨hA4.alloc hA4.size _, Lib.hid ((HK3_0.out.below hB4 HK3_0.out.lt).alloc _), Lib.hid ((HK3_1.out.below hB4 HK3_1.out.lt).alloc _), Lib.hid ((HK3_2.out.below hB4 HK3_2.out.lt).alloc _), Lib.hid ((HK3_3.out.below hB4 HK3_3.out.lt).alloc _), Lib.hid (Blk.new _ _ _)⟩ ?_
  rintro W5 ⟨hA4', HK4_0, HK4_1, HK4_2, HK4_3, HK4_4⟩
  have hs4 := hA4'.size
  clear hA4 hb4 hz4 hB4 HK3_0 HK3_1 HK3_2 HK3_3 hA3' hs3
  generalize v4.heap.size = g4 at *
  go_upto_region 8 with (go_at_call 16; refine (first_nil _).mono ?_; rintro e v5 ⟨rfl, hb5⟩)
  have hz5 := hb5.size
  have hB5 := hb5
  have hA5 : Below w.heap.size w v5 := hA4'.trans (hb5.mono hs4)
  refine wp_forget (fun X => Below w.heap.size w X ∧ Hid (Blk X g0 23 #[.int .i64 3, .int .i64 7]) ∧ Hid (Blk X g1 23 #[.int .i64 0, .int .i64 0]) ∧ Hid (Blk X g2 23 #[.int .i64 0, .int .i64 0]) ∧ Hid (Blk X g3 23 #[.int .i64 2, .int .i64 9]) ∧ Hid (Blk X g4 23 #[.int .i64 4, .int .i64 1]) ∧ Hid (Blk X v5.heap.size 23 #[.int .i64 0, .int .i64 0])) ⟨hA5.alloc hA5.size _, Lib.hid ((HK4_0.out.below hB5 HK4_0.out.lt).alloc _), Lib.hid ((HK4_1.out.below hB5 HK4_1.out.lt).alloc _), Lib.hid ((HK4_2.out.below hB5 HK4_2.out.lt).alloc _), Lib.hid ((HK4_3.out.below hB5 HK4_3.out.lt).alloc _), Lib.hid ((HK4_4.out.below hB5 HK4_4.out.lt).alloc _), Lib.hid (Blk.new _ _ _)⟩ ?_
  rintro W6 ⟨hA5', HK5_0, HK5_1, HK5_2, HK5_3, HK5_4, HK5_5⟩
  have hs5 := hA5'.size
  clear hA5 hb5 hz5 hB5 HK4_0 HK4_1 HK4_2 HK4_3 HK4_4 hA4' hs4
  generalize v5.heap.size = g5 at *
  go_upto_region 9 with (go_at_call 19; refine (last_lit (by intro W; simp [go_sem]) (by intro W; simp [go_sem]) lit20 litD21 _).mono ?_; rintro e v6 ⟨rfl, hb6⟩)
  have hz6 := hb6.size
  have hB6 := hb6
  have hA6 : Below w.heap.size w v6 := hA5'.trans (hb6.mono hs5)
  refine wp_forget (fun X => Below w.heap.size w X ∧ Hid (Blk X g0 23 #[.int .i64 3, .int .i64 7]) ∧ Hid (Blk X g1 23 #[.int .i64 0, .int .i64 0]) ∧ Hid (Blk X g2 23 #[.int .i64 0, .int .i64 0]) ∧ Hid (Blk X g3 23 #[.int .i64 2, .int .i64 9]) ∧ Hid (Blk X g4 23 #[.int .i64 4, .int .i64 1]) ∧ Hid (Blk X g5 23 #[.int .i64 0, .int .i64 0]) ∧ Hid (Blk X v6.heap.size 23 #[.int .i64 2, .int .i64 2])) ⟨hA6.alloc hA6.size _, Lib.hid ((HK5_0.out.below hB6 HK5_0.out.lt).alloc _), Lib.hid ((HK5_1.out.below hB6 HK5_1.out.lt).alloc _), Lib.hid ((HK5_2.out.below hB6 HK5_2.out.lt).alloc _), Lib.hid ((HK5_3.out.below hB6 HK5_3.out.lt).alloc _), Lib.hid ((HK5_4.out.below hB6 HK5_4.out.lt).alloc _), Lib.hid ((HK5_5.out.below hB6 HK5_5.out.lt).alloc _), Lib.hid (Blk.new _ _ _)⟩ ?_
  rintro W7 ⟨hA6', HK6_0, HK6_1, HK6_2, HK6_3, HK6_4, HK6_5, HK6_6⟩
  have hs6 := hA6'.size
  clear hA6 hb6 hz6 hB6 HK5_0 HK5_1 HK5_2 HK5_3 HK5_4 HK5_5 hA5' hs5
  generalize v6.heap.size = g6 at *
  go_upto_region 10 with (go_at_call 19; refine (last_lit (by intro W; simp [go_sem]) (by intro W; simp [go_sem]) lit22 litD9 _).mono ?_; rintro e v7 ⟨rfl, hb7⟩)
  have hz7 := hb7.size
  have hB7 := hb7
  have hA7 : Below w.heap.size w v7 := hA6'.trans (hb7.mono hs6)
  refine wp_forget (fun X => Below w.heap.size w X ∧ Hid (Blk X g0 23 #[.int .i64 3, .int .i64 7]) ∧ Hid (Blk X g1 23 #[.int .i64 0, .int .i64 0]) ∧ Hid (Blk X g2 23 #[.int .i64 0, .int .i64 0]) ∧ Hid (Blk X g3 23 #[.int .i64 2, .int .i64 9]) ∧ Hid (Blk X g4 23 #[.int .i64 4, .int .i64 1]) ∧ Hid (Blk X g5 23 #[.int .i64 0, .int .i64 0]) ∧ Hid (Blk X g6 23 #[.int .i64 2, .int .i64 2]) ∧ Hid (Blk X v7.heap.size 23 #[.int .i64 1, .int .i64 1])) ⟨hA7.alloc hA7.size _, Lib.hid ((HK6_0.out.below hB7 HK6_0.out.lt).alloc _), Lib.hid ((HK6_1.out.below hB7 HK6_1.out.lt).alloc _), Lib.hid ((HK6_2.out.below hB7 HK6_2.out.lt).alloc _), Lib.hid ((HK6_3.out.below hB7 HK6_3.out.lt).alloc _), Lib.hid ((HK6_4.out.below hB7 HK6_4.out.lt).alloc _), Lib.hid ((HK6_5.out.below hB7 HK6_5.out.lt).alloc _), Lib.hid ((HK6_6.out.below hB7 HK6_6.out.lt).alloc _), Lib.hid (Blk.new _ _ _)⟩ ?_
  rintro W8 ⟨hA7', HK7_0, HK7_1, HK7_2, HK7_3, HK7_4, HK7_5, HK7_6, HK7_7⟩
  have hs7 := hA7'.size
  clear hA7 hb7 hz7 hB7 HK6_0 HK6_1 HK6_2 HK6_3 HK6_4 HK6_5 HK6_6 hA6' hs6
  generalize v7.heap.size = g7 at *
  have hl := hA7'.size
  have hl0 := HK7_0.out.lt
  have p0 : W8.cell? ⟨g0, 0, none⟩ = some (.int .i64 3) := HK7_0.out.cell 0
  have q0 : W8.cell? ⟨g0, 1, none⟩ = some (.int .i64 7) := HK7_0.out.cell 1
  have hl1 := HK7_1.out.lt
  have p1 : W8.cell? ⟨g1, 0, none⟩ = some (.int .i64 0) := HK7_1.out.cell 0
  have q1 : W8.cell? ⟨g1, 1, none⟩ = some (.int .i64 0) := HK7_1.out.cell 1
  have hl2 := HK7_2.out.lt
  have p2 : W8.cell? ⟨g2, 0, none⟩ = some (.int .i64 0) := HK7_2.out.cell 0
  have q2 : W8.cell? ⟨g2, 1, none⟩ = some (.int .i64 0) := HK7_2.out.cell 1
  have hl3 := HK7_3.out.lt
  have p3 : W8.cell? ⟨g3, 0, none⟩ = some (.int .i64 2) := HK7_3.out.cell 0
  have q3 : W8.cell? ⟨g3, 1, none⟩ = some (.int .i64 9) := HK7_3.out.cell 1
  have hl4 := HK7_4.out.lt
  have p4 : W8.cell? ⟨g4, 0, none⟩ = some (.int .i64 4) := HK7_4.out.cell 0
  have q4 : W8.cell? ⟨g4, 1, none⟩ = some (.int .i64 1) := HK7_4.out.cell 1
  have hl5 := HK7_5.out.lt
  have p5 : W8.cell? ⟨g5, 0, none⟩ = some (.int .i64 0) := HK7_5.out.cell 0
  have q5 : W8.cell? ⟨g5, 1, none⟩ = some (.int .i64 0) := HK7_5.out.cell 1
  have hl6 := HK7_6.out.lt
  have p6 : W8.cell? ⟨g6, 0, none⟩ = some (.int .i64 2) := HK7_6.out.cell 0
  have q6 : W8.cell? ⟨g6, 1, none⟩ = some (.int .i64 2) := HK7_6.out.cell 1
  have hl7 := HK7_7.out.lt
  have p7 : W8.cell? ⟨g7, 0, none⟩ = some (.int .i64 1) := HK7_7.out.cell 0
  have q7 : W8.cell? ⟨g7, 1, none⟩ = some (.int .i64 1) := HK7_7.out.cell 1
  go_wp2_with fail
  go_ret
  exact ⟨rfl, by first | exact hA7' | go_grown⟩
end Go.Proofs.Ytfkkhnceffhilaa
