/- SettingBack. -/
import Derived.Test.YtdlmocjkhkopgaaShPlain
import Derived.Test.YtdlmocjkhkopgaaKitB
import Derived.Maps.AppendAt
import Derived.Deep.AppendLies
namespace Go.Proofs.Ytdlmocjkhkopgaa.Sh
open Go.ChangeShapes Go.WideShapes Go.ChangeAt Go.RowKit
set_option linter.unusedVariables false
set_option linter.unusedSimpArgs false

theorem rowy_congr {w : World} {v : Value} {n C : Nat} {V V' : Nat → Nat → Value} (h : Rowy w v n C V) (he : ∀ i j, i < n → j < C → V i j = V' i j) : Rowy w v n C V' := by
  obtain ⟨A, cap, h1, h2, h3, h4⟩ := h
  refine ⟨A, cap, h1, h2, h3, fun hn => ?_⟩
  obtain ⟨b, off, h5, h6, h7⟩ := h4 hn
  exact ⟨b, off, h5, h6, fun i j hi hj => by rw [h7 i j hi hj, he i j hi hj]⟩
/-- The settings that the law makes. -/
def made (Z : Nat → Nat → Int) (i j : Nat) : Int := if j = 0 then Ytdlmocjkhkopgaa.wit (Z i 0) 0 65535 else Ytdlmocjkhkopgaa.wit (Z i 1) 0 4294967295
theorem made_rng (Z : Nat → Nat → Int) (i : Nat) : (0 ≤ made Z i 0 ∧ made Z i 0 ≤ 65535) ∧ 0 ≤ made Z i 1 ∧ made Z i 1 ≤ 4294967295 := by
  have a := wit_lo (Z i 0) 0 65535 (by decide)
  have b := wit_hi (Z i 0) 0 65535 (by decide)
  have c := wit_lo (Z i 1) 0 4294967295 (by decide)
  have d := wit_hi (Z i 1) 0 4294967295 (by decide)
  exact ⟨⟨a, b⟩, c, d⟩
theorem info29' : (Try.prog.info? 29).map (fun i => (i.zero, i.size, i.bytes)) = some (some (.agg #[.int .i64 0, .int .i64 0]), 2, 16) := by kernel_rfl
/-- The loop's relation. -/
def BIn (w : World) (Z : Nat → Nat → Int) (k : Nat) (r : Value) (wr : World) : Prop := wr.ownsRow w.heap.size 29 2 r k (rowsOf (SV (P2 (made Z))) 2 k) ∧ Below w.heap.size w wr
set_option maxHeartbeats 8000000 in
set_option maxRecDepth 100000 in
theorem back_any (v : Value) (n : Nat) (Z : Nat → Nat → Int) (w : World) (hR : Rowy w v n 2 (fun i j => .int .i64 (Z i j))) (hZ : ∀ i j, i < n → j < 2 → -9223372036854775808 ≤ Z i j ∧ Z i j ≤ 9223372036854775807) :
    Calls Try.prog 8 #[v] w fun e w' => e = .returned (.bool true) ∧ Below w.heap.size w w' := by
  have HR := Lib.hid hR
  have HZ := Lib.hid hZ
  obtain ⟨A, cap, rfl, h1, h2, h3⟩ := hR
  unfold maxLen at h2
  obtain ⟨i0, hi, hz0, hz1, hz2⟩ := info_parts info29'
  clear h3 hZ
  go_enter Try.func8, Try.ntmps8
  go_wp2_with fail
  go_loopw [3, 4, 5] (fun u3 u4 u5 wr => ∃ k : Nat, u5 = .int .i64 k ∧ u4 = .int .i64 (fb (made Z) k) ∧ k ≤ n ∧ k ≤ 40 ∧ Hid (BIn w Z k u3 wr)) (fun _ _ u5 _ => 40 - (intOf u5).toNat)
  case atStart => exact ⟨0, rfl, rfl, Nat.zero_le _, Nat.zero_le _, Lib.hid ⟨World.ownsRow_nil _ _ _ _, Below.refl _ _⟩⟩
  case round =>
    obtain ⟨k, rfl, rfl, hkn, hk40, HB⟩ := hrel
    obtain ⟨hown, hB⟩ := id HB.out
    obtain ⟨A3, c3, rfl⟩ := own_form hown
    have HO := Lib.hid hown
    have HBw := Lib.hid hB
    have hws := hB.size
    obtain ⟨x, hx⟩ : ∃ x, fb (made Z) k = x := ⟨_, rfl⟩
    rw [hx]
    have HX := Lib.hid hx
    clear hown hx
    by_cases hlt : k < n ∧ k < 40
    · obtain ⟨A', cap', he, _, _, h3⟩ := HR.out
      cases he
      obtain ⟨b, off, rfl, hbl, hc⟩ := h3 (by omega)
      have e0 : wr.cell? ⟨b, off + k * 2, none⟩ = some (.int .i64 (Z k 0)) := by rw [hB.cell (p := ⟨b, _, none⟩) hbl]; simpa using hc k 0 hlt.1 (by omega)
      have e1 : wr.cell? ⟨b, off + k * 2 + 1, none⟩ = some (.int .i64 (Z k 1)) := by rw [hB.cell (p := ⟨b, _, none⟩) hbl]; exact hc k 1 hlt.1 (by omega)
      obtain ⟨z0a, z0b⟩ := HZ.out k 0 hlt.1 (by omega)
      obtain ⟨z1a, z1b⟩ := HZ.out k 1 hlt.1 (by omega)
      have hbw : b < wr.heap.size := by omega
      have hk0 : 0 ≤ (k : Int) := by omega
      have hk1 : (k : Int) < (n : Int) := by omega
      have hk2 : (k : Int) < 40 := by omega
      have HL : Hid (k + 1 ≤ n ∧ k + 1 ≤ 40) := hlt
      have hp : P2 (made Z) k = (Ytdlmocjkhkopgaa.wit (Z k 0) 0 65535, Ytdlmocjkhkopgaa.wit (Z k 1) 0 4294967295) := rfl
      have HP := Lib.hid hp
      have hfb : fb (made Z) (k + 1) = if x = 0 then svalue (Ytdlmocjkhkopgaa.wit (Z k 0) 0 65535) (Ytdlmocjkhkopgaa.wit (Z k 1) 0 4294967295) else x := by rw [← HX.out]; rfl
      have HFB := Lib.hid hfb
      clear h3 hc hlt hp hfb
      generalize Z k 0 = y0 at *
      generalize Z k 1 = y1 at *
      go_upto_region 6 with fail
      go_region_held3 (fun w' => w'.cell? ⟨b, off + k * 2, none⟩ = some (.int .i64 y0) ∧ w'.cell? ⟨b, off + k * 2 + 1, none⟩ = some (.int .i64 y1)) (go_keep)
        (first | (go_at_call 18; refine (wit_any _ _ _ _ (by decide) (by decide) (by decide) (by omega) (by omega)).mono ?_; rintro e w1 ⟨rfl, rfl⟩))
      all_goals go_upto_region 7 with fail
      all_goals
        generalize Ytdlmocjkhkopgaa.wit y0 0 65535 = p0 at *
        generalize Ytdlmocjkhkopgaa.wit y1 0 4294967295 = p1 at *
        refine wp_forget (fun X => Hid (Below w.heap.size w X) ∧ wr.heap.size + 1 = X.heap.size ∧ Hid (Blk X wr.heap.size 29 #[.int .i64 p0, .int .i64 p1]) ∧ Hid (X.ownsRow w.heap.size 29 2 (.slice A3 k c3) k (rowsOf (SV (P2 (made Z))) 2 k))) ⟨Lib.hid (HBw.out.alloc hws _).drew, by simp only [World.size_drew, World.size_alloc], Lib.hid (Blk.new _ _ _).drew, Lib.hid (HO.out.alloc _).drew⟩ ?_
        rintro X ⟨HBX, hXs, HB6, HOX⟩
        obtain ⟨b6, hb6⟩ : ∃ b6, wr.heap.size = b6 := ⟨_, rfl⟩
        have hb6n : (Value.slice A3 k c3).ownBlock ≠ some b6 := fun e => by have := (HO.out.lt _ e).2; omega
        rw [hb6] at HB6 hXs hws ⊢
        clear hb6
        have hl6 := HB6.out.lt
        have x0 : X.cell? ⟨b6, 0, none⟩ = some (.int .i64 p0) := HB6.out.cell 0
        have x1 : X.cell? ⟨b6, 1, none⟩ = some (.int .i64 p1) := HB6.out.cell 1
        go_upto_region 8 with (at_builtin; refine wpList_append_own_at _ rfl (.tmp 33) (.tmp 35) 30 rfl w.heap.size 29 i0 _ 2 16 Try.underlying30 hi hz0 hz1 hz2 rfl (by decide) _ k (rowsOf (SV (P2 (made Z))) 2 k) rfl (HOX.out.alloc _) ⟨X.heap.size, 0, none⟩ 1 1 [.int .i64 p0, .int .i64 p1] rfl rfl (World.news_of_block (B := X.heap.size) (cs := #[.int .i64 p0, .int .i64 p1]) (heap_alloc_new X _)) (by simp [Value.oneCell']) (by unfold maxLen; omega) (by omega) (by go_size) ?_; intro v1 w1 hown1 hg1 hnil hat; have HO1 := Lib.hid hown1; have HG1 := Lib.hid hg1; have hs1 := hg1.size; clear hown1 hg1 hnil hat)
        have hO1 : w1.ownsRow w.heap.size 29 2 v1 (k + 1) (rowsOf (SV (P2 (made Z))) 2 (k + 1)) := by
          have h1 := HO1.out
          rw [← rows_snocS, HP.out]
          exact h1
        have hB1 : Below w.heap.size w w1 := Below.grown (HBX.out.alloc (by omega) _) HG1.out (by simp only [World.size_alloc]; omega) (fun g hg => (HOX.out.lt g hg).1)
        have y6 : w1.cell? ⟨b6, 0, none⟩ = some (.int .i64 p0) := ((HB6.out.alloc _).grown HG1.out (fun e => hb6n e.symm)).cell 0
        have y7 : w1.cell? ⟨b6, 1, none⟩ = some (.int .i64 p1) := ((HB6.out.alloc _).grown HG1.out (fun e => hb6n e.symm)).cell 1
        have hl61 : b6 < w1.heap.size := by simp only [World.size_alloc] at hs1; omega
        have HO2 := Lib.hid hO1
        have HB2 := Lib.hid hB1
        have hw1 := hB1.size
        clear hO1 hB1 HO1 HG1 x0 x1 hs1 e0 e1
        by_cases hx0 : x = 0
        · subst hx0
          have HF := Lib.hid (by have := HFB.out; rwa [if_pos rfl] at this : fb (made Z) (k + 1) = svalue p0 p1)
          go_wp2_with (go_at_call 11; refine (value_any p0 p1 _).mono ?_; rintro e w2 ⟨rfl, hb2⟩)
          go_roundw
          case rel => exact ⟨k + 1, by go_num, val_int HF.out.symm, HL.out.1, HL.out.2, Lib.hid ⟨own_below HO2.out hb2, HB2.out.trans (hb2.mono hw1)⟩⟩
          case measure => have := HL.out; simp [intOf]; omega
        · have hx0' : (x == 0) = false := by simpa using hx0
          have HF := Lib.hid (by have := HFB.out; rwa [if_neg hx0] at this : fb (made Z) (k + 1) = x)
          clear hx0
          go_wp2_with fail
          go_roundw
          case rel => exact ⟨k + 1, by go_num, val_int HF.out.symm, HL.out.1, HL.out.2, Lib.hid ⟨HO2.out, HB2.out⟩⟩
          case measure => have := HL.out; simp [intOf]; omega
    · have hcc : (¬ (k : Int) < (n : Int)) ∨ ((k : Int) < (n : Int) ∧ ¬ (k : Int) < 40) := by omega
      have hrow : Rowy wr (.slice A3 k c3) k 2 (fun i j => .int .i64 (made Z i j)) := rowy_congr (rowy_own HO.out) (fun i j hi hj => by
        unfold SV P2
        match j, hj with
        | 0, _ => rfl
        | 1, _ => rfl)
      have hput := put_any _ k (made Z) wr hrow (by omega)
      have HPUT := Lib.hid hput
      have hset := set_put (made Z) k (fun i _ => made_rng Z i)
      have HSET := Lib.hid hset
      have hrp := rows_put (made Z) k (fun i _ => made_rng Z i)
      have HRP := Lib.hid hrp
      have hk40' : k ≤ 40 := hk40
      clear hlt hrow hput hset hrp hB hkn hk40
      rcases hcc with hc1 | ⟨hc1, hc2⟩
      all_goals
        go_wp2_with fail
        refine HPUT.out.mono ?_
        rintro e w1 ⟨vb, rfl, hbo, hB1⟩
        obtain ⟨Ab, cb, rfl⟩ := own_form hbo
        have hbs : BS w1 (.slice Ab (6 * k) cb) (putBytes (made Z) k) := bs_own hbo (by rw [putBytes_len])
        have hB1w : Below w.heap.size w w1 := HBw.out.trans (hB1.mono hws)
        have hO1 := own_below HO.out hB1
        have hof := fun (r : PP × (Int × Int × Int)) (hr : setF 4 0 0 (putBytes (made Z) k) = r) => of_sett 4 0 0 Ab (6 * k) cb (putBytes (made Z) k) w1 hbs (putBytes_len _ _) (pb_byt _ _) (by omega) (by unfold rightB; simp; omega) (by decide) (by kernel_rfl) (by decide) (by decide) (by decide) (by decide) (by decide) r hr
        have HOF := Lib.hid hof
        have HB1 := Lib.hid hB1w
        have HO1 := Lib.hid hO1
        have hs1 := hB1w.size
        clear hbo hB1 hbs hB1w hO1 hof
        by_cases hx0 : x = 0
        · subst hx0
          have hans := HOF.out _ HSET.out
          rw [if_pos HX.out] at hans
          have HANS := Lib.hid hans
          clear hans
          go_wp2_with fail
          refine HANS.out.mono ?_
          rintro e w2 ⟨⟨v, rfl, vb, vs, rfl, hob, hsv⟩, hB2⟩
          have hsv2 : w2.ownsRow w1.heap.size 29 2 vs k (rowsOf (SV (setZ (putBytes (made Z) k))) 2 k) := hsv
          rw [HRP.out] at hsv2
          obtain ⟨As, cs, rfl⟩ := own_form hsv2
          obtain ⟨Av, cv', rfl⟩ := own_form hob
          have hO2 := own_below HO1.out hB2
          have HO2 := Lib.hid hO2
          have HS2 := Lib.hid hsv2
          have HB2 := Lib.hid (HB1.out.trans (hB2.mono hs1))
          have hs2 : w.heap.size ≤ w2.heap.size := HB2.out.size
          clear hob hsv hsv2 hO2 hB2
          have hk0 : 0 ≤ (k : Int) := by omega
          have hk9 : (k : Int) ≤ 40 := by omega
          go_wp2_with (first
            | (go_at_call 20; refine (sames_any _ _ k (P2 (made Z)) _ ((rowy_own HS2.out).below (((Below.refl _ _).alloc (Nat.le_refl _) _).alloc (by simp only [World.size_alloc]; omega) _) (Nat.le_refl _)) ((rowy_own HO2.out).below (((Below.refl _ _).alloc (Nat.le_refl _) _).alloc (by simp only [World.size_alloc]; omega) _) (Nat.le_refl _))).mono ?_; rintro e w3 ⟨rfl, hb3⟩; have hB3 : Below w.heap.size w w3 := Below.trans ((HB2.out.alloc (by omega) _).alloc (by simp only [World.size_alloc]; omega) _) (hb3.mono (by simp only [World.size_alloc]; omega)); have hs3 := hB3.size)
            | (go_at_call 3; refine (runs_any _).mono ?_; rintro e w4 ⟨rfl, hb4⟩; have hB4 : Below w.heap.size w w4 := hB3.trans (hb4.mono hs3)))
          go_ret
          exact ⟨rfl, hB4⟩
        · have hx0' : (x != 0) = true := by simpa using hx0
          have hans := HOF.out _ HSET.out
          rw [if_neg (by rw [HX.out]; exact hx0), HX.out] at hans
          have HANS := Lib.hid hans
          clear hans hx0
          go_wp2_with fail
          refine HANS.out.mono ?_
          rintro e w2 ⟨⟨v, rfl, vb, vs, rfl, hob, hsv⟩, hB2⟩
          obtain ⟨As, cs, rfl⟩ := own_form hsv
          obtain ⟨Av, cv', rfl⟩ := own_form hob
          have HB2 := Lib.hid (HB1.out.trans (hB2.mono hs1))
          have hs2 : w.heap.size ≤ w2.heap.size := HB2.out.size
          clear hob hsv hB2
          go_wp2_with (go_at_call 3; refine (runs_any _).mono ?_; rintro e w3 ⟨rfl, hb3⟩; have hB3 : Below w.heap.size w w3 := Below.trans ((HB2.out.alloc (by omega) _).alloc (by simp only [World.size_alloc]; omega) _) (hb3.mono (by simp only [World.size_alloc]; omega)))
          go_ret
          exact ⟨rfl, hB3⟩
end Go.Proofs.Ytdlmocjkhkopgaa.Sh
