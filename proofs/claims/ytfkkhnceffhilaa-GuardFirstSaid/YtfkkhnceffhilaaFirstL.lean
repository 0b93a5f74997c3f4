/- GuardFirst: the rows told. -/
import Derived.Test.YtfkkhnceffhilaaFirstN
import Derived.Deep.DeepCutAuto
import Derived.Deep.CutBlock
namespace Go.Proofs.Ytfkkhnceffhilaa
open Go.ChangeShapes Go.WideShapes Go.ChangeAt Go.RowKit
set_option linter.unusedVariables false
set_option linter.unusedSimpArgs false

theorem el44 : Try.prog.elem 44 = 32 := by kernel_rfl
theorem und44 : Try.prog.underlying 44 = some (.slice (Try.prog.elem 44)) := by rw [el44]; exact Try.underlying44
theorem info32 : (Try.prog.info? 32).map (·.size) = some 1 := by kernel_rfl
theorem run_to8 (A : Option Addr) (n cap : Nat) (hc : 8 ≤ cap) : ∀ w2, (Instr.sliceAt 44 (.slice A n cap) none (some (.int .i64 8)) none).run Try.prog w2 = .ok (.slice A 8 cap) w2 := by
  intro w2
  have := run_slice_h (P := Try.prog) (w := w2) 44 A n cap und44 .i64 8 (by omega) (by omega)
  rw [run_sliceAt_slice (P := Try.prog) (w := w2) 44 _ _ _ _ und44, this]
  have e : (sizeOf (Try.prog.elem 44)).run Try.prog w2 = .ok 1 w2 := by
    rw [el44]
    cases hq : Try.prog.info? 32 with
    | none => have := info32; simp [hq] at this
    | some i => have h5 := info32; simp [hq] at h5; simp [sizeOf, typeInfo, hq, h5]
  have e0 : A.map (·.add (0 * 1)) = A := by cases A <;> simp [Addr.add]
  rw [e]
  simp [Result.andThen, sliced]
  intro _
  simpa using e0
def atF (h : How) (k : Nat) : Int := match h with | .fault _ _ => (k : Int) - 1 | _ => -1
theorem own_kept1 {X : Nat → Prop} {w w1 : World} {B n sz : Nat} {e : TypeId} {v : Value} {xs : List Value} (h : w.ownsRow B e sz v n xs) (hk : Kept X w w1) (hX : ∀ k, v.ownBlock = some k → ¬ X k) : w1.ownsRow B e sz v n xs := by
  refine ⟨h.1, ?_⟩
  rcases h.2 with h' | ⟨g, cap, cur, rfl, hB, hh, h1, h2, h3, h4⟩
  · exact .inl h'
  · refine .inr ⟨g, cap, cur, rfl, hB, ?_, h1, h2, h3, h4⟩
    rw [hk.block g (Array.getElem?_eq_some_iff.1 hh).1 (hX g rfl)]
    exact hh
def fsF (b1 c : Nat) (b : Nat → Nat) (i : Nat) : List Value := (List.range i).map fun j => .func (.func 29) #[] (fcap b1 c b j)
theorem fcap_congr {b1 c : Nat} {b b' : Nat → Nat} {j : Nat} (h : b j = b' j) : fcap b1 c b j = fcap b1 c b' j := by simp [fcap, h]
theorem fsF_snoc (b1 c bc : Nat) (b : Nat → Nat) (i : Nat) : fsF b1 c b i ++ [.func (.func 29) #[] #[.pointer (some ⟨b1, 0, none⟩), .pointer (some ⟨bc, 0, none⟩), .pointer (some ⟨c, 0, none⟩)]] = fsF b1 c (fun j => if j = i then bc else b j) (i + 1) := by
  unfold fsF
  rw [List.range_succ, List.map_append]
  congr 1
  · apply List.map_congr_left
    intro j hj
    have := List.mem_range.1 hj
    rw [fcap_congr (b := b)]
    simp only [if_neg (show ¬ j = i by omega)]
  · simp [fcap]
/-- The second loop's relation. -/
def GIn (wx : World) (b1 c i : Nat) (b : Nat → Nat) (bc : Nat) (v7 : Value) (wr : World) : Prop :=
  Blk wr wx.heap.size 46 #[v7] ∧ (∀ j, j < i → Blk wr (b j) 3 #[.int .i64 j] ∧ wx.heap.size < b j) ∧ Blk wr bc 3 #[.int .i64 i] ∧ wx.heap.size < bc ∧ wr.ownsRow wx.heap.size 1 1 v7 i (fsF b1 c b i) ∧ Below wx.heap.size wx wr
theorem gin_step {wx wr w1 : World} {A7 : Option Addr} {b1 c c7 i : Nat} {b : Nat → Nat} {bc : Nat} {v1 x : Value} (h : GIn wx b1 c i b bc (.slice A7 i c7) wr)
    (ho : w1.ownsRow wx.heap.size 1 1 v1 (i + 1) (fsF b1 c b i ++ [.func (.func 29) #[] #[.pointer (some ⟨b1, 0, none⟩), .pointer (some ⟨bc, 0, none⟩), .pointer (some ⟨c, 0, none⟩)]])) (hg : (wr.alloc (.cells #[x] 1)).grownBy w1 (Value.slice A7 i c7).ownBlock) :
    GIn wx b1 c (i + 1) (fun j => if j = i then bc else b j) w1.heap.size v1 ((w1.setCell ⟨wx.heap.size, 0, none⟩ v1).alloc (.cells #[.int .i64 ((i + 1 : Nat) : Int)] 3)) := by
  obtain ⟨hb0, hbs, hbc, hlt0, hown, hB⟩ := h
  have hne : ∀ g t cs, Blk wr g t cs → t ≠ 1 → some g ≠ (Value.slice A7 i c7).ownBlock := fun g t cs h ht e => ht (own_type hown h e)
  have lift0 : ∀ {g t cs}, Blk wr g t cs → t ≠ 1 → Blk w1 g t cs := fun hb ht => (hb.alloc _).grown hg (hne _ _ _ hb ht)
  have lift : ∀ {g t cs}, Blk wr g t cs → t ≠ 1 → wx.heap.size ≠ g → Blk ((w1.setCell ⟨wx.heap.size, 0, none⟩ v1).alloc (.cells #[.int .i64 ((i + 1 : Nat) : Int)] 3)) g t cs := fun hb ht hx => ((lift0 hb ht).far (by first | exact hx | exact hx.symm) _).alloc _
  have hs := hg.size
  simp only [World.size_alloc] at hs
  have hl := hbc.lt
  have hsz : ∀ u, (w1.setCell ⟨wx.heap.size, 0, none⟩ u).heap.size = w1.heap.size := fun u => by simp [World.setCell]
  have hb0' := lift0 hb0 (by decide)
  have hne1 : ∀ k, v1.ownBlock = some k → k ≠ wx.heap.size := fun k hk e => by
    subst e
    exact absurd (own_type ho hb0' hk.symm) (by decide)
  have hkp : Kept (fun k => k = wx.heap.size) w1 (w1.setCell ⟨wx.heap.size, 0, none⟩ v1) := (Kept.refl (fun k => k = wx.heap.size) w1).setCell (p := ⟨wx.heap.size, 0, none⟩) (.inr rfl) v1
  refine ⟨(hb0'.put 0 _).alloc _, fun j hj => ?_, Blk.new_at (hsz _).symm, by omega, ?_, ?_⟩
  · show Blk _ (if j = i then bc else b j) _ _ ∧ _ < (if j = i then bc else b j)
    by_cases e : j = i
    · subst e; rw [if_pos rfl]; exact ⟨lift hbc (by decide) (by omega), by omega⟩
    · rw [if_neg e]; have h9 := hbs j (by omega); exact ⟨lift h9.1 (by decide) (by omega), h9.2⟩
  · rw [fsF_snoc] at ho
    exact World.ownsRow.alloc (own_kept1 ho hkp hne1) _
  · have h1 : Below wx.heap.size wx w1 := Below.grown (hB.alloc hB.size _) hg (by simp only [World.size_alloc]; have := hB.size; omega) (fun k hk => (hown.lt k hk).1)
    have h2 : Below wx.heap.size w1 (w1.setCell ⟨wx.heap.size, 0, none⟩ v1) := hkp.below (fun k _ hk => Nat.le_of_eq hk.symm) h1.size
    exact (h1.trans h2).alloc (by rw [hsz]; exact h1.size) _
def inP (v : Value) (w : World) : Int := match v with | .pointer (some a) => intOf ((w.cell? a).getD (.int .i64 0)) | _ => 0
theorem inP_eq {w : World} {a : Addr} {i : Nat} (h : w.cell? a = some (.int .i64 i)) : inP (.pointer (some a)) w = i := by simp [inP, h, intOf]
/-- The first loop's relation, and its end's. -/
def FIn (W0 : World) (B : Nat) (L : Nat → List Act) (m k : Nat) (N : List Int) (h : How) (r : Value) (wr : World) : Prop :=
  Own wr B [B] r N ∧ Below B W0 wr ∧ Blk wr B 35 #[.int .i64 (num3 h).1, .int .i64 (num3 h).2.1, .int .i64 (num3 h).2.2] ∧ FT L k N h ∧ k ≤ m
def FOut (W0 : World) (B : Nat) (L : Nat → List Act) (m : Nat) (u3 u5 : Value) (wr : World) : Prop :=
  ∃ (k : Nat) (N : List Int) (h : How), FIn W0 B L m k N h u3 wr ∧ u5 = .int .i64 (atF h k) ∧ (h ≠ .fine ∨ k = m)
set_option maxHeartbeats 8000000 in
set_option maxRecDepth 100000 in
theorem firsts_any (v : Value) (n : Nat) (R : Nat → Value) (L : Nat → List Act) (w : World) (hR : RS w v n R L) :
    Calls Try.prog 5 #[v] w fun e w' => e = .returned (.bool true) ∧ Below w.heap.size w w' := by
  have hm := hmf
  obtain ⟨hR1, hR2⟩ := hR
  obtain ⟨A, cap, rfl, h1, h2, h3⟩ := hR1
  obtain ⟨m, hmn⟩ : ∃ m, m = min 8 n := ⟨_, rfl⟩
  have hR3 : Rowy w (.slice A m cap) m 1 (fun i _ => R i) := ⟨A, cap, rfl, by omega, h2, fun h0 => by
    obtain ⟨b, off, ha, hb, hc⟩ := h3 (by omega)
    exact ⟨b, off, ha, hb, fun i j hi hj => hc i j (by omega) hj⟩⟩
  have hR4 : ∀ i, i < m → AS w (R i) (L i) ∧ AOk (L i) := fun i hi => hR2 i (by omega)
  have HR := Lib.hid hR3
  have HL := Lib.hid hR4
  have hm8 : m ≤ 8 := by omega
  have hsl := fun (h8 : 8 < n) => run_to8 A n cap (by omega)
  have HSL := Lib.hid hsl
  clear hR2 h3 hR3 hR4 hsl
  unfold maxLen at h2
  have hn0 : (0 : Int) ≤ (n : Int) := by omega
  by_cases h8 : 8 < n
  · have hme : m = 8 := by omega
    have hsl : ∀ w2, (Instr.sliceAt 44 (.slice A n cap) none (some (.int .i64 8)) none).run Try.prog w2 = .ok (.slice A m cap) w2 := by rw [hme]; exact HSL.out h8
    have h8' : (8 : Int) < (n : Int) := by omega
    have h1m : m ≤ cap := by omega
    clear h8 hmn hme h1
    have h1 := h1m
    clear h1m
    go_enter Try.func5, Try.ntmps5
    go_upto_region 3 with fail
    refine wp_forget (fun X => Hid (Below w.heap.size w X) ∧ w.heap.size + 1 = X.heap.size ∧ Hid (Blk X w.heap.size 44 #[.slice A m cap])) ⟨Lib.hid (by go_grown), by simp only [World.size_alloc], Lib.hid (Blk.new _ _ _)⟩ ?_
    rintro X ⟨HBX, hXs, HX1⟩
    go_upto_region 4 with fail
    refine wp_forget (fun X4 => Hid (Below (w.heap.size + 1) X X4) ∧ Hid (Below w.heap.size w X4) ∧ w.heap.size + 1 + 1 = X4.heap.size ∧ Hid (Blk X4 w.heap.size 44 #[.slice A m cap]) ∧ Hid (Blk X4 (w.heap.size + 1) 33 #[.slice none 0 0])) ⟨Lib.hid ((Below.refl _ _).alloc (by omega) _), Lib.hid (HBX.out.alloc (by omega) _), by simp only [World.size_alloc]; omega, Lib.hid (HX1.out.alloc _), Lib.hid (Blk.new_at (by omega))⟩ ?_
    rintro X4 ⟨HXX, HB4, hX4, H41, H4c⟩
    have hXc : X.heap.size = w.heap.size + 1 := hXs.symm
    rw [hXc]
    clear HX1
    have HXS := Lib.hid hXs
    clear hXs hXc
    go_upto_block 0 with fail
    have hF0 : FIn X4 X4.heap.size L m 0 [] .fine (.slice none 0 0) (X4.alloc (.cells #[.int .i64 0, .int .i64 0, .int .i64 0] 35)) := ⟨Own.nil _ _ _, (Below.refl _ _).alloc (Nat.le_refl _) _, Blk.new _ _ _, .zero, Nat.zero_le _⟩
    have HF0 := Lib.hid hF0
    clear hF0
    obtain ⟨B, hBe⟩ : ∃ B, X4.heap.size = B := ⟨_, rfl⟩
    have HBe := Lib.hid hBe
    rw [hBe] at HF0 ⊢
    have hBw : w.heap.size + 1 < B := by omega
    have HX4 := Lib.hid hX4
    have hX4le : w.heap.size + 1 < X4.heap.size := by omega
    clear hBe hX4
    go_cut [3, 5] (fun u3 u5 wx => FOut X4 B L m u3 u5 wx)
    case first =>
      go_wp2_with fail
      go_loopw [3, 5, 7] (fun u3 u5 u7 wr => ∃ (k : Nat) (N : List Int) (h : How), u7 = .int .i64 k ∧ u5 = .int .i64 (atF h k) ∧ Hid (FIn X4 B L m k N h u3 wr)) (fun _ _ u7 _ => m - (intOf u7).toNat)
      case atStart => exact ⟨0, [], .fine, rfl, rfl, HF0⟩
      case round =>
        obtain ⟨k, N, h, rfl, rfl, HF⟩ := hrel
        obtain ⟨hO, hB, hbB, hFT, hkm⟩ := id HF.out
        obtain ⟨A3, c3, rfl⟩ := hO.form
        obtain ⟨q, hq⟩ : ∃ q, N.length = q := ⟨_, rfl⟩
        have hql := ft_len hFT
        rw [hq] at hO hql HF ⊢
        have HO := Lib.hid hO
        have HB := Lib.hid hB
        have HbB := Lib.hid hbB
        have HFT := Lib.hid hFT
        have HQ := Lib.hid hq
        have hws : X4.heap.size ≤ wr.heap.size := hB.size
        have hlB := hbB.lt
        have h1' := hB.block w.heap.size (by omega)
        have hb1 : Blk wr w.heap.size 44 #[.slice A m cap] := h1'.trans H41.out
        have g1 : wr.cell? ⟨w.heap.size, 0, none⟩ = some (.slice A m cap) := hb1.cell 0
        have hk0 : 0 ≤ (k : Int) := by omega
        have hBle : X4.heap.size ≤ B := by rw [HBe.out]; exact Nat.le_refl _
        have hBge : B ≤ X4.heap.size := by rw [HBe.out]; exact Nat.le_refl _
        clear h1' hb1 hq
        by_cases hgo : k < m ∧ h = .fine
        · obtain ⟨hlt, rfl⟩ := hgo
          obtain ⟨A', cap', he, _, _, h3⟩ := HR.out
          cases he
          obtain ⟨b, off, rfl, hbl, hc⟩ := h3 (by omega)
          have hBww : Below w.heap.size w wr := HB4.out.trans (hB.mono (by omega))
          have eR : wr.cell? ⟨b, off + k, none⟩ = some (R k) := by rw [hBww.cell (p := ⟨b, _, none⟩) hbl]; simpa using hc k 0 hlt (by omega)
          have hAk := (HL.out k hlt).1
          obtain ⟨Ak, ck, hRk, _, _⟩ := as_form hAk
          have hsh := short_any X4 wr (R k) (L k) (hAk.below HB4.out (Nat.le_refl _))
          have HSH := Lib.hid hsh
          rw [hRk] at eR HSH
          obtain ⟨lk, hlk⟩ : ∃ lk, (L k).length = lk := ⟨_, rfl⟩
          rw [hlk] at eR HSH
          have g0 : wr.cell? ⟨B, 0, none⟩ = some (.int .i64 0) := hbB.cell 0
          have hk1 : (k : Int) < (m : Int) := by omega
          have hc12 := cut_len (L k) 12
          have htl := fun A c (hA : AS X4 (.slice A (cut (L k) 12).length c) (cut (L k) 12)) => told_any X4 B (by omega) 100 (cut (L k) 12) A c [B] wr (.slice A3 q c3) N (by omega) (by omega) hA (cut_ok (HL.out k hlt).2 12) hB hO (by simp; omega) (by rw [HQ.out]; omega) (by omega)
          have HTL := Lib.hid htl
          have HLT := Lib.hid hlt
          clear h3 hc hAk hRk hsh hlk htl hO hB hbB hFT hkm hlt hBww
          simp only [atF]
          go_wp2_with (go_at_call 28; refine HSH.out.mono ?_; rintro e w1 ⟨⟨A1, c1, rfl, hA1⟩, rfl⟩)
          refine (HTL.out A1 c1 hA1).mono ?_
          rintro e w2 ⟨ns, h, r', rfl, hT, hO2, hK2⟩
          have hb2 := hK2.blk HbB.out (fun hx => hx.2 (by simp))
          have hB2 : Below B X4 w2 := HB.out.trans (hK2.low (by omega))
          have HT := Lib.hid hT
          have HO2 := Lib.hid hO2
          have HB2 := Lib.hid hB2
          have Hb2 := Lib.hid hb2
          obtain ⟨x, hx⟩ : ∃ x, (num3 h).1 = x := ⟨_, rfl⟩
          obtain ⟨y, hy⟩ : ∃ y, (num3 h).2.1 = y := ⟨_, rfl⟩
          obtain ⟨z, hz⟩ : ∃ z, (num3 h).2.2 = z := ⟨_, rfl⟩
          have hE : endV h = .agg #[.int .i64 x, .int .i64 y, .int .i64 z] := by unfold endV; rw [hx, hy, hz]
          rw [hE]
          have HN3 := Lib.hid (⟨hx, hy, hz⟩ : (num3 h).1 = x ∧ (num3 h).2.1 = y ∧ (num3 h).2.2 = z)
          have b0 : w2.cell? ⟨B, 0, none⟩ = some (.int .i64 0) := hb2.cell 0
          have b1 : w2.cell? ⟨B, 1, none⟩ = some (.int .i64 0) := hb2.cell 1
          have b2 : w2.cell? ⟨B, 2, none⟩ = some (.int .i64 0) := hb2.cell 2
          have f0 : w2.frozen? ⟨B, 0, none⟩ = false := hb2.frozen 0
          have f1 : w2.frozen? ⟨B, 1, none⟩ = false := hb2.frozen 1
          have f2 : w2.frozen? ⟨B, 2, none⟩ = false := hb2.frozen 2
          have hl2 := hb2.lt
          have hfin : FIn X4 B L m (k + 1) (N ++ ns) h r' (((w2.setCell ⟨B, 0, none⟩ (.int .i64 x)).setCell ⟨B, 1, none⟩ (.int .i64 y)).setCell ⟨B, 2, none⟩ (.int .i64 z)) :=
            ⟨hO2.kept (three w2 B _ _ _) (fun k hk hx => hO2.far k hk (by rw [hx]; simp)), hB2.trans ((three w2 B _ _ _).below (fun _ _ hx => by omega) (by omega)), by rw [hx, hy, hz]; exact ((hb2.put 0 _).put 1 _).put 2 _, .step HFT.out hT, HLT.out⟩
          have HFN := Lib.hid hfin
          clear hT hO2 hK2 hb2 hB2 hx hy hz hE hfin
          by_cases hx1 : x = 1
          · subst hx1
            have hat : atF h (k + 1) = (k : Int) := by
              have := HN3.out.1
              cases h <;> simp [num3, atF] at this ⊢
              all_goals omega
            have HAT := Lib.hid hat
            clear hat
            go_wp2_with fail
            go_roundw
            case rel => exact ⟨k + 1, N ++ ns, h, by go_num, val_int HAT.out.symm, HFN⟩
            case measure => have := HLT.out; simp [intOf]; omega
          · have hat : atF h (k + 1) = -1 := by
              have := HN3.out.1
              cases h <;> simp [num3, atF] at this ⊢
              all_goals omega
            have HAT := Lib.hid hat
            have hx1' : (x == 1) = false := by simpa using hx1
            clear hat hx1
            go_wp2_with fail
            go_roundw
            case rel => exact ⟨k + 1, N ++ ns, h, by go_num, val_int HAT.out.symm, HFN⟩
            case measure => have := HLT.out; simp [intOf]; omega
        · have hor : k = m ∨ (k < m ∧ ∃ c a, h = .fault c a) ∨ (k < m ∧ h = .other) := by
            rcases Nat.lt_or_ge k m with hlt | hge
            · cases h with
              | fine => exact absurd ⟨hlt, rfl⟩ hgo
              | fault c a => exact .inr (.inl ⟨hlt, c, a, rfl⟩)
              | other => exact .inr (.inr ⟨hlt, rfl⟩)
            · exact .inl (by omega)
          clear hO hB hFT hgo
          rcases hor with rfl | ⟨hlt, c, a, rfl⟩ | ⟨hlt, rfl⟩
          · clear hbB
            go_wp2_with fail
            go_meet
            exact ⟨k, N, h, HF.out, rfl, .inr rfl⟩
          · have hk1 : (k : Int) < (m : Int) := by omega
            have hkp : 1 ≤ k := by
              have := HFT.out
              cases this with
              | step _ _ => omega
            have hat : ¬ (atF (.fault c a) k < 0) := by show ¬ ((k : Int) - 1 < 0); omega
            clear hbB
            go_wp2_with fail
            go_meet
            exact ⟨k, N, _, HF.out, rfl, .inl (by simp)⟩
          · have hk1 : (k : Int) < (m : Int) := by omega
            have g0 : wr.cell? ⟨B, 0, none⟩ = some (.int .i64 2) := hbB.cell 0
            have hat : atF .other k < 0 := by show (-1 : Int) < 0; omega
            clear hbB
            go_wp2_with fail
            go_meet
            exact ⟨k, N, _, HF.out, rfl, .inl (by simp)⟩
    case rest =>
      obtain ⟨k, N, h, ⟨hO, hB, hbB, hFT, hkm⟩, rfl, hor⟩ := hcut
      obtain ⟨A3, c3, rfl⟩ := hO.form
      obtain ⟨q, hq⟩ : ∃ q, N.length = q := ⟨_, rfl⟩
      rw [hq] at hO ⊢
      have HO := Lib.hid hO
      have HB := Lib.hid hB
      have HbB := Lib.hid hbB
      have HFT := Lib.hid hFT
      have HOR := Lib.hid hor
      have HKM := Lib.hid hkm
      have HQ := Lib.hid hq
      have hs1 := hB.size
      have hlB := hbB.lt
      have hBle : X4.heap.size ≤ B := by rw [HBe.out]; exact Nat.le_refl _
      have hBge : B ≤ X4.heap.size := by rw [HBe.out]; exact Nat.le_refl _
      have h1' := hB.block w.heap.size (by omega)
      have hb1 : Blk wc w.heap.size 44 #[.slice A m cap] := h1'.trans H41.out
      have Hb1 := Lib.hid hb1
      have hlw : w.heap.size + 1 < wc.heap.size := by omega
      clear h1' hb1 hO hB hbB hFT hor hkm hq
      go_wp2_with fail
      obtain ⟨i0, hi, hz0, hz1, hz2⟩ := info_parts info1
      have hG0 : GIn wc w.heap.size (w.heap.size + 1) 0 (fun _ => 0) (wc.heap.size + 1) (.slice none 0 0) ((wc.alloc (.cells #[.slice none 0 0] 46)).alloc (.cells #[.int .i64 0] 3)) :=
        ⟨(Blk.new _ _ _).alloc _, fun j hj => absurd hj (Nat.not_lt_zero _), Blk.new_at (by simp only [World.size_alloc]), by omega, World.ownsRow_nil _ _ _ _, ((Below.refl _ _).alloc (Nat.le_refl _) _).alloc (by simp only [World.size_alloc]; omega) _⟩
      have HG0 := Lib.hid hG0
      clear hG0
      go_loopw [10] (fun s10 wr => ∃ (i : Nat) (b : Nat → Nat) (bc : Nat), s10 = .pointer (some ⟨bc, 0, none⟩) ∧ i ≤ m ∧ Hid (∃ v7, GIn wc w.heap.size (w.heap.size + 1) i b bc v7 wr)) (fun s10 wr => m - (inP s10 wr).toNat)
      case atStart => exact ⟨0, _, _, rfl, Nat.zero_le _, Lib.hid ⟨_, HG0.out⟩⟩
      case round =>
        obtain ⟨i, b, bc, rfl, him, HM⟩ := hrel
        obtain ⟨v7, hG⟩ := HM.out
        obtain ⟨A9, c9, rfl⟩ : ∃ A9 c9, v7 = .slice A9 i c9 := by
          rcases hG.2.2.2.2.1.2 with ⟨rfl, h0⟩ | ⟨g, cap, cur, rfl, _⟩
          · exact ⟨none, 0, by rw [h0]⟩
          · exact ⟨_, _, rfl⟩
        obtain ⟨hb0, hbs, hbc, hlt0, hown, hBr⟩ := id hG
        have HG := Lib.hid hG
        have hne : ∀ g t cs, Blk wr g t cs → t ≠ 1 → some g ≠ (Value.slice A9 i c9).ownBlock := fun g t cs h ht e => ht (own_type hown h e)
        have HO9 := Lib.hid (hown.alloc (.cells #[.func (.func 29) #[] #[.pointer (some ⟨w.heap.size, 0, none⟩), .pointer (some ⟨bc, 0, none⟩), .pointer (some ⟨w.heap.size + 1, 0, none⟩)]] 1))
        have HBC := Lib.hid hbc
        have HB9 := Lib.hid hb0
        have HNE := Lib.hid hne
        have hb1r := Hb1.out.below hBr Hb1.out.lt
        have g1 : wr.cell? ⟨w.heap.size, 0, none⟩ = some (.slice A m cap) := hb1r.cell 0
        have e9 : wr.cell? ⟨bc, 0, none⟩ = some (.int .i64 i) := hbc.cell 0
        have e0 : wr.cell? ⟨wc.heap.size, 0, none⟩ = some (.slice A9 i c9) := hb0.cell 0
        have hwr := hBr.size
        have hbl := hbc.lt
        have hb0l := hb0.lt
        by_cases hlt : i < m
        · have hk1 : (i : Int) < (m : Int) := by omega
          have HLT := Lib.hid hlt
          clear hG hb0 hbs hbc hown hBr hne hb1r hlt him
          go_wp2_with (at_builtin; go_loud (refine wpList_append_own_at _ rfl (.tmp 58) (.tmp 60) 46 rfl wc.heap.size 1 i0 .nilFunc 1 8 Try.underlying46 hi hz0 hz1 hz2 rfl (by decide) _ i _ rfl HO9.out ⟨wr.heap.size, 0, none⟩ 1 1 [.func (.func 29) #[] #[.pointer (some ⟨w.heap.size, 0, none⟩), .pointer (some ⟨bc, 0, none⟩), .pointer (some ⟨w.heap.size + 1, 0, none⟩)]] rfl rfl (cell_one_new _ _ _) (by first | simp [Value.oneCell'] | fail "ONE") (by first | (unfold maxLen; omega) | fail "MAX") (by first | omega | fail "OM") (by first | go_size | fail "SIZE") ?_; intro v1 w1 hown1 hg1 hnil hat; obtain ⟨A8, c8, rfl⟩ := own_form1 hown1; have HO1 := Lib.hid hown1; have HG1 := Lib.hid hg1; have e9' : w1.cell? ⟨bc, 0, none⟩ = some (.int .i64 i) := ((HBC.out.alloc _).grown hg1 (HNE.out _ _ _ HBC.out (by decide))).cell 0; have hb9w := (HB9.out.alloc (.cells #[.func (.func 29) #[] #[.pointer (some ⟨w.heap.size, 0, none⟩), .pointer (some ⟨bc, 0, none⟩), .pointer (some ⟨w.heap.size + 1, 0, none⟩)]] 1)).grown hg1 (HNE.out _ _ _ HB9.out (by decide)); have e0' : w1.cell? ⟨wc.heap.size, 0, none⟩ = some (.slice A9 i c9) := hb9w.cell 0; have z0' : w1.frozen? ⟨wc.heap.size, 0, none⟩ = false := hb9w.frozen 0; have hs1' := hg1.size; have hbne : bc ≠ wc.heap.size := Nat.ne_of_gt hlt0; clear hnil hat))
          go_roundw
          case rel => exact ⟨i + 1, fun j => if j = i then bc else b j, w1.heap.size, rfl, HLT.out, Lib.hid ⟨_, gin_step HG.out HO1.out HG1.out⟩⟩
          case measure =>
            have h1 := inP_eq e9
            have h2 := inP_eq (w := (w1.setCell ⟨wc.heap.size, 0, none⟩ (.slice A8 (i + 1) c8)).alloc (.cells #[.int .i64 ((i + 1 : Nat) : Int)] 3)) (a := ⟨w1.heap.size, 0, none⟩) (i := i + 1) ((Blk.new_at (by simp [World.setCell])).cell 0)
            have h3 := HLT.out
            have hc1 : (((i + 1 : Nat)) : Int) = (i : Int) + 1 := by omega
            rw [hc1] at h2
            rw [h1, h2]
            omega
        · obtain rfl : m = i := by omega
          have hbr := hBr
          have hbd : ∀ i, i < m → Blk wr (b i) 3 #[.int .i64 i] ∧ b i < wr.heap.size ∧ b i ≠ w.heap.size + 1 := fun i hi => ⟨(hbs i hi).1, (hbs i hi).1.lt, by have := (hbs i hi).2; omega⟩
          obtain ⟨nq, hq, ht1, ht2, ht3, ht4⟩ := ft_seq HFT.out
          have hrec : Rec L m k nq hq := ⟨ht1, ht2, by rw [← ht4]; exact HOR.out, HKM.out⟩
          have hYc : Below w.heap.size w wc := HB4.out.trans (HB.out.mono (by omega))
          have hY : Below w.heap.size w wr := hYc.trans (hbr.mono (by omega))
          have hxs := HXS.out
          have hx4 := HX4.out
          have hal : Below wr.heap.size wr (((wr.alloc (.cells #[.int .i64 (-2)] 3)).alloc (.cells #[.int .i64 0, .int .i64 0] 23)).alloc (.cells #[.bool false] 4)) := (((Below.refl _ _).alloc (Nat.le_refl _) _).alloc (by simp only [World.size_alloc]; omega) _).alloc (by simp only [World.size_alloc]; omega) _
          have hc4 : Blk wr (w.heap.size + 1) 33 #[.slice none 0 0] := (H4c.out.below HB.out (by omega)).below hbr (by omega)
          have hxw : Below (w.heap.size + 1) X wr := HXX.out.trans ((HB.out.mono (by omega)).trans (hbr.mono (by omega)))
          have hP : P30 X wr (w.heap.size + 1) wr.heap.size [] (-2, 0, 0, false) [] (((wr.alloc (.cells #[.int .i64 (-2)] 3)).alloc (.cells #[.int .i64 0, .int .i64 0] 23)).alloc (.cells #[.bool false] 4)) :=
            ⟨⟨⟨⟨_, hc4.below hal hc4.lt, (by simp [abv_mem]), Own.nil _ _ _⟩, hxw.trans (hal.mono (by omega)), (fun s hs => by rw [List.append_nil] at hs; have := (abv_mem.1 hs).2; omega)⟩, ⟨by simp only [World.size_alloc]; omega, fun g hg _ => ⟨hal.block g hg, by simp⟩⟩⟩, ⟨((Blk.new _ _ _).alloc _).alloc _, by simp⟩, ⟨(Blk.new_at (by simp only [World.size_alloc])).alloc _, by simp⟩, ⟨Blk.new_at (by simp only [World.size_alloc]), by simp⟩⟩
          have hcg := caught_good (c := w.heap.size + 1) (p30_good X wr (w.heap.size + 1) wr.heap.size [] (-2, 0, 0, false)) (fun h => good_and (good_const _) (p30_good X wr (w.heap.size + 1) wr.heap.size (cat nq k) _)) (by intro X; simp [go_sem]) (run30 X wr (w.heap.size + 1) wr.heap.size w.heap.size wc.heap.size m cap k c9 A A9 b R L nq hq w hrec hm8 (by omega) (by omega) (by omega) hY HBX.out hb1r (by omega) (by omega) hbd HR.out HL.out (rowy_own1 hown (by intro k hk; simp [fsF, hk])) (fun a ha => by have := hown.lt a.block (by rw [ha]; rfl); omega) hb0 (by omega) (by omega)) [] _ (by simp) hP
          rw [← ht3, ← ht4] at hcg
          have HCG := Lib.hid hcg
          have HBR := Lib.hid hbr
          have HYY := Lib.hid hY
          clear hG hb0 hbs hown hBr hne hb1r hlt him HM hbc HBC HO9 HNE hbr hbd ht1 ht2 ht3 ht4 hrec hYc hY hxs hx4 hal hc4 hxw hP hcg
          have hk1 : ¬ (m : Int) < (m : Int) := by omega
          go_wp2_with fail
          refine HCG.out.mono ?_
          rintro e w5 ⟨h', hce, hk5, rfl, ⟨⟨⟨r5, hb5, _, ho5⟩, hbl5, _⟩, hst5⟩, ⟨hk0, _⟩, ⟨hf5, _⟩, ⟨hi5, _⟩⟩
          have hkc : Kept (fun g => g = w.heap.size + 1) wr w5 := ⟨hk5.os, hk5.tape, hk5.output, by have := hk5.size; simp only [World.size_alloc] at this; omega, fun g hg hgc => (hst5.2 g hg hgc).1⟩
          have hw5 : Below w.heap.size w w5 := HYY.out.trans (hkc.below (fun g _ hg => by omega) (by omega))
          have hor5 := HO.out.below HBR.out
          have hO5 : Own w5 B [B] (.slice A3 q c3) N := hor5.kept hkc (fun g hg hx => by have := (hor5.row.lt g hg).1; omega)
          have hE5 := hkc.blk (HbB.out.below HBR.out hlB) (by omega)
          have HO5 := Lib.hid hO5
          have HOO5 := Lib.hid ho5
          have HW5 := Lib.hid hw5
          have hws5 := hw5.size
          have hlE := hE5.lt
          have hlC := hb5.lt
          have hlK := hk0.lt
          have hlF := hf5.lt
          have hlI := hi5.lt
          have e0 : w5.cell? ⟨B, 0, none⟩ = some (.int .i64 (num3 h).1) := hE5.cell 0
          have e1 : w5.cell? ⟨B, 1, none⟩ = some (.int .i64 (num3 h).2.1) := hE5.cell 1
          have e2 : w5.cell? ⟨B, 2, none⟩ = some (.int .i64 (num3 h).2.2) := hE5.cell 2
          have ec : w5.cell? ⟨w.heap.size + 1, 0, none⟩ = some r5 := hb5.cell 0
          have ek : w5.cell? ⟨wr.heap.size, 0, none⟩ = some (.int .i64 (outF h k).1) := hk0.cell 0
          have ef0 : w5.cell? ⟨wr.heap.size + 1, 0, none⟩ = some (.int .i64 (outF h k).2.1) := hf5.cell 0
          have ef1 : w5.cell? ⟨wr.heap.size + 1, 1, none⟩ = some (.int .i64 (outF h k).2.2.1) := hf5.cell 1
          have ei : w5.cell? ⟨wr.heap.size + 2, 0, none⟩ = some (.bool (outF h k).2.2.2) := hi5.cell 0
          obtain ⟨A5, c5, rfl⟩ := ho5.form
          rw [HQ.out] at HOO5 ec
          have hkp : (∃ c a, h = .fault c a) → 1 ≤ k := by
            rintro ⟨c', a', rfl⟩
            cases HFT.out with
            | step _ _ => omega
          clear hk5 hb5 ho5 hbl5 hE5 hO5 hw5 hf5 hi5 hst5 hkc hor5 hk0 HCG e9 g1 HbB HFT HOR HKM
          cases h with
          | fine =>
            clear hkp
            unfold CaughtEnd endV lastH num3 at hce
            subst hce
            simp only [num3, outF, atF] at e0 e1 e2 ek ef0 ef1 ei ⊢
            go_wp2_with (first
              | (go_at_call 27; refine (same_any _ _ _ _ _ _ _ N (HOO5.out.kept ((Kept.refl (fun _ => False) w5).alloc _) (fun _ _ h => h)) (HO5.out.kept ((Kept.refl (fun _ => False) w5).alloc _) (fun _ _ h => h))).mono ?_; rintro e w6 ⟨rfl, hb6⟩; have hB6 : Below w.heap.size w w6 := (HW5.out.alloc (by omega) _).trans (hb6.mono (by simp only [World.size_alloc]; omega)); have hs7 := hB6.size; obtain ⟨d6, d6'⟩ := bcell hb6)
              | (go_at_call 3; refine (runs_any _).mono ?_; rintro e w7 ⟨rfl, hb7⟩; have hB7 : Below w.heap.size w w7 := hB6.trans (hb7.mono hs7)))
            go_ret
            exact ⟨rfl, hB7⟩
          | other =>
            clear hkp
            unfold CaughtEnd endV lastH num3 at hce
            subst hce
            simp only [num3, outF, atF] at e0 e1 e2 ek ef0 ef1 ei ⊢
            go_wp2_with (first
              | (go_at_call 27; refine (same_any _ _ _ _ _ _ _ N (HOO5.out.kept ((Kept.refl (fun _ => False) w5).alloc _) (fun _ _ h => h)) (HO5.out.kept ((Kept.refl (fun _ => False) w5).alloc _) (fun _ _ h => h))).mono ?_; rintro e w6 ⟨rfl, hb6⟩; have hB6 : Below w.heap.size w w6 := (HW5.out.alloc (by omega) _).trans (hb6.mono (by simp only [World.size_alloc]; omega)); have hs7 := hB6.size; obtain ⟨d6, d6'⟩ := bcell hb6)
              | (go_at_call 3; refine (runs_any _).mono ?_; rintro e w7 ⟨rfl, hb7⟩; have hB7 : Below w.heap.size w w7 := hB6.trans (hb7.mono hs7)))
            go_ret
            exact ⟨rfl, hB7⟩
          | fault fc fa =>
            have hkp1 := hkp ⟨_, _, rfl⟩
            unfold CaughtEnd endV lastH num3 at hce
            subst hce
            simp only [num3, outF, atF] at e0 e1 e2 ek ef0 ef1 ei ⊢
            obtain ⟨z, hz⟩ : ∃ z, (k : Int) - 1 = z := ⟨_, rfl⟩
            have hz0' : 0 ≤ z := by omega
            rw [hz] at ek ⊢
            clear hkp hz hkp1
            go_wp2_with (first
              | (go_at_call 27; refine (same_any _ _ _ _ _ _ _ N (HOO5.out.kept ((Kept.refl (fun _ => False) w5).alloc _) (fun _ _ h => h)) (HO5.out.kept ((Kept.refl (fun _ => False) w5).alloc _) (fun _ _ h => h))).mono ?_; rintro e w6 ⟨rfl, hb6⟩; have hB6 : Below w.heap.size w w6 := (HW5.out.alloc (by omega) _).trans (hb6.mono (by simp only [World.size_alloc]; omega)); have hs7 := hB6.size; obtain ⟨d6, d6'⟩ := bcell hb6)
              | (go_at_call 3; refine (runs_any _).mono ?_; rintro e w7 ⟨rfl, hb7⟩; have hB7 : Below w.heap.size w w7 := hB6.trans (hb7.mono hs7)))
            go_ret
            exact ⟨rfl, hB7⟩
  · obtain rfl : m = n := by omega
    have h8' : ¬ (8 : Int) < (m : Int) := by omega
    clear h8 hmn
    go_enter Try.func5, Try.ntmps5
    go_upto_region 3 with fail
    refine wp_forget (fun X => Hid (Below w.heap.size w X) ∧ w.heap.size + 1 = X.heap.size ∧ Hid (Blk X w.heap.size 44 #[.slice A m cap])) ⟨Lib.hid (by go_grown), by simp only [World.size_alloc], Lib.hid (Blk.new _ _ _)⟩ ?_
    rintro X ⟨HBX, hXs, HX1⟩
    go_upto_region 4 with fail
    refine wp_forget (fun X4 => Hid (Below (w.heap.size + 1) X X4) ∧ Hid (Below w.heap.size w X4) ∧ w.heap.size + 1 + 1 = X4.heap.size ∧ Hid (Blk X4 w.heap.size 44 #[.slice A m cap]) ∧ Hid (Blk X4 (w.heap.size + 1) 33 #[.slice none 0 0])) ⟨Lib.hid ((Below.refl _ _).alloc (by omega) _), Lib.hid (HBX.out.alloc (by omega) _), by simp only [World.size_alloc]; omega, Lib.hid (HX1.out.alloc _), Lib.hid (Blk.new_at (by omega))⟩ ?_
    rintro X4 ⟨HXX, HB4, hX4, H41, H4c⟩
    have hXc : X.heap.size = w.heap.size + 1 := hXs.symm
    rw [hXc]
    clear HX1
    have HXS := Lib.hid hXs
    clear hXs hXc
    go_upto_block 0 with fail
    have hF0 : FIn X4 X4.heap.size L m 0 [] .fine (.slice none 0 0) (X4.alloc (.cells #[.int .i64 0, .int .i64 0, .int .i64 0] 35)) := ⟨Own.nil _ _ _, (Below.refl _ _).alloc (Nat.le_refl _) _, Blk.new _ _ _, .zero, Nat.zero_le _⟩
    have HF0 := Lib.hid hF0
    clear hF0
    obtain ⟨B, hBe⟩ : ∃ B, X4.heap.size = B := ⟨_, rfl⟩
    have HBe := Lib.hid hBe
    rw [hBe] at HF0 ⊢
    have hBw : w.heap.size + 1 < B := by omega
    have HX4 := Lib.hid hX4
    have hX4le : w.heap.size + 1 < X4.heap.size := by omega
    clear hBe hX4
    go_cut [3, 5] (fun u3 u5 wx => FOut X4 B L m u3 u5 wx)
    case first =>
      go_wp2_with fail
      go_loopw [3, 5, 7] (fun u3 u5 u7 wr => ∃ (k : Nat) (N : List Int) (h : How), u7 = .int .i64 k ∧ u5 = .int .i64 (atF h k) ∧ Hid (FIn X4 B L m k N h u3 wr)) (fun _ _ u7 _ => m - (intOf u7).toNat)
      case atStart => exact ⟨0, [], .fine, rfl, rfl, HF0⟩
      case round =>
        obtain ⟨k, N, h, rfl, rfl, HF⟩ := hrel
        obtain ⟨hO, hB, hbB, hFT, hkm⟩ := id HF.out
        obtain ⟨A3, c3, rfl⟩ := hO.form
        obtain ⟨q, hq⟩ : ∃ q, N.length = q := ⟨_, rfl⟩
        have hql := ft_len hFT
        rw [hq] at hO hql HF ⊢
        have HO := Lib.hid hO
        have HB := Lib.hid hB
        have HbB := Lib.hid hbB
        have HFT := Lib.hid hFT
        have HQ := Lib.hid hq
        have hws : X4.heap.size ≤ wr.heap.size := hB.size
        have hlB := hbB.lt
        have h1' := hB.block w.heap.size (by omega)
        have hb1 : Blk wr w.heap.size 44 #[.slice A m cap] := h1'.trans H41.out
        have g1 : wr.cell? ⟨w.heap.size, 0, none⟩ = some (.slice A m cap) := hb1.cell 0
        have hk0 : 0 ≤ (k : Int) := by omega
        have hBle : X4.heap.size ≤ B := by rw [HBe.out]; exact Nat.le_refl _
        have hBge : B ≤ X4.heap.size := by rw [HBe.out]; exact Nat.le_refl _
        clear h1' hb1 hq
        by_cases hgo : k < m ∧ h = .fine
        · obtain ⟨hlt, rfl⟩ := hgo
          obtain ⟨A', cap', he, _, _, h3⟩ := HR.out
          cases he
          obtain ⟨b, off, rfl, hbl, hc⟩ := h3 (by omega)
          have hBww : Below w.heap.size w wr := HB4.out.trans (hB.mono (by omega))
          have eR : wr.cell? ⟨b, off + k, none⟩ = some (R k) := by rw [hBww.cell (p := ⟨b, _, none⟩) hbl]; simpa using hc k 0 hlt (by omega)
          have hAk := (HL.out k hlt).1
          obtain ⟨Ak, ck, hRk, _, _⟩ := as_form hAk
          have hsh := short_any X4 wr (R k) (L k) (hAk.below HB4.out (Nat.le_refl _))
          have HSH := Lib.hid hsh
          rw [hRk] at eR HSH
          obtain ⟨lk, hlk⟩ : ∃ lk, (L k).length = lk := ⟨_, rfl⟩
          rw [hlk] at eR HSH
          have g0 : wr.cell? ⟨B, 0, none⟩ = some (.int .i64 0) := hbB.cell 0
          have hk1 : (k : Int) < (m : Int) := by omega
          have hc12 := cut_len (L k) 12
          have htl := fun A c (hA : AS X4 (.slice A (cut (L k) 12).length c) (cut (L k) 12)) => told_any X4 B (by omega) 100 (cut (L k) 12) A c [B] wr (.slice A3 q c3) N (by omega) (by omega) hA (cut_ok (HL.out k hlt).2 12) hB hO (by simp; omega) (by rw [HQ.out]; omega) (by omega)
          have HTL := Lib.hid htl
          have HLT := Lib.hid hlt
          clear h3 hc hAk hRk hsh hlk htl hO hB hbB hFT hkm hlt hBww
          simp only [atF]
          go_wp2_with (go_at_call 28; refine HSH.out.mono ?_; rintro e w1 ⟨⟨A1, c1, rfl, hA1⟩, rfl⟩)
          refine (HTL.out A1 c1 hA1).mono ?_
          rintro e w2 ⟨ns, h, r', rfl, hT, hO2, hK2⟩
          have hb2 := hK2.blk HbB.out (fun hx => hx.2 (by simp))
          have hB2 : Below B X4 w2 := HB.out.trans (hK2.low (by omega))
          have HT := Lib.hid hT
          have HO2 := Lib.hid hO2
          have HB2 := Lib.hid hB2
          have Hb2 := Lib.hid hb2
          obtain ⟨x, hx⟩ : ∃ x, (num3 h).1 = x := ⟨_, rfl⟩
          obtain ⟨y, hy⟩ : ∃ y, (num3 h).2.1 = y := ⟨_, rfl⟩
          obtain ⟨z, hz⟩ : ∃ z, (num3 h).2.2 = z := ⟨_, rfl⟩
          have hE : endV h = .agg #[.int .i64 x, .int .i64 y, .int .i64 z] := by unfold endV; rw [hx, hy, hz]
          rw [hE]
          have HN3 := Lib.hid (⟨hx, hy, hz⟩ : (num3 h).1 = x ∧ (num3 h).2.1 = y ∧ (num3 h).2.2 = z)
          have b0 : w2.cell? ⟨B, 0, none⟩ = some (.int .i64 0) := hb2.cell 0
          have b1 : w2.cell? ⟨B, 1, none⟩ = some (.int .i64 0) := hb2.cell 1
          have b2 : w2.cell? ⟨B, 2, none⟩ = some (.int .i64 0) := hb2.cell 2
          have f0 : w2.frozen? ⟨B, 0, none⟩ = false := hb2.frozen 0
          have f1 : w2.frozen? ⟨B, 1, none⟩ = false := hb2.frozen 1
          have f2 : w2.frozen? ⟨B, 2, none⟩ = false := hb2.frozen 2
          have hl2 := hb2.lt
          have hfin : FIn X4 B L m (k + 1) (N ++ ns) h r' (((w2.setCell ⟨B, 0, none⟩ (.int .i64 x)).setCell ⟨B, 1, none⟩ (.int .i64 y)).setCell ⟨B, 2, none⟩ (.int .i64 z)) :=
            ⟨hO2.kept (three w2 B _ _ _) (fun k hk hx => hO2.far k hk (by rw [hx]; simp)), hB2.trans ((three w2 B _ _ _).below (fun _ _ hx => by omega) (by omega)), by rw [hx, hy, hz]; exact ((hb2.put 0 _).put 1 _).put 2 _, .step HFT.out hT, HLT.out⟩
          have HFN := Lib.hid hfin
          clear hT hO2 hK2 hb2 hB2 hx hy hz hE hfin
          by_cases hx1 : x = 1
          · subst hx1
            have hat : atF h (k + 1) = (k : Int) := by
              have := HN3.out.1
              cases h <;> simp [num3, atF] at this ⊢
              all_goals omega
            have HAT := Lib.hid hat
            clear hat
            go_wp2_with fail
            go_roundw
            case rel => exact ⟨k + 1, N ++ ns, h, by go_num, val_int HAT.out.symm, HFN⟩
            case measure => have := HLT.out; simp [intOf]; omega
          · have hat : atF h (k + 1) = -1 := by
              have := HN3.out.1
              cases h <;> simp [num3, atF] at this ⊢
              all_goals omega
            have HAT := Lib.hid hat
            have hx1' : (x == 1) = false := by simpa using hx1
            clear hat hx1
            go_wp2_with fail
            go_roundw
            case rel => exact ⟨k + 1, N ++ ns, h, by go_num, val_int HAT.out.symm, HFN⟩
            case measure => have := HLT.out; simp [intOf]; omega
        · have hor : k = m ∨ (k < m ∧ ∃ c a, h = .fault c a) ∨ (k < m ∧ h = .other) := by
            rcases Nat.lt_or_ge k m with hlt | hge
            · cases h with
              | fine => exact absurd ⟨hlt, rfl⟩ hgo
              | fault c a => exact .inr (.inl ⟨hlt, c, a, rfl⟩)
              | other => exact .inr (.inr ⟨hlt, rfl⟩)
            · exact .inl (by omega)
          clear hO hB hFT hgo
          rcases hor with rfl | ⟨hlt, c, a, rfl⟩ | ⟨hlt, rfl⟩
          · clear hbB
            go_wp2_with fail
            go_meet
            exact ⟨k, N, h, HF.out, rfl, .inr rfl⟩
          · have hk1 : (k : Int) < (m : Int) := by omega
            have hkp : 1 ≤ k := by
              have := HFT.out
              cases this with
              | step _ _ => omega
            have hat : ¬ (atF (.fault c a) k < 0) := by show ¬ ((k : Int) - 1 < 0); omega
            clear hbB
            go_wp2_with fail
            go_meet
            exact ⟨k, N, _, HF.out, rfl, .inl (by simp)⟩
          · have hk1 : (k : Int) < (m : Int) := by omega
            have g0 : wr.cell? ⟨B, 0, none⟩ = some (.int .i64 2) := hbB.cell 0
            have hat : atF .other k < 0 := by show (-1 : Int) < 0; omega
            clear hbB
            go_wp2_with fail
            go_meet
            exact ⟨k, N, _, HF.out, rfl, .inl (by simp)⟩
    case rest =>
      obtain ⟨k, N, h, ⟨hO, hB, hbB, hFT, hkm⟩, rfl, hor⟩ := hcut
      obtain ⟨A3, c3, rfl⟩ := hO.form
      obtain ⟨q, hq⟩ : ∃ q, N.length = q := ⟨_, rfl⟩
      rw [hq] at hO ⊢
      have HO := Lib.hid hO
      have HB := Lib.hid hB
      have HbB := Lib.hid hbB
      have HFT := Lib.hid hFT
      have HOR := Lib.hid hor
      have HKM := Lib.hid hkm
      have HQ := Lib.hid hq
      have hs1 := hB.size
      have hlB := hbB.lt
      have hBle : X4.heap.size ≤ B := by rw [HBe.out]; exact Nat.le_refl _
      have hBge : B ≤ X4.heap.size := by rw [HBe.out]; exact Nat.le_refl _
      have h1' := hB.block w.heap.size (by omega)
      have hb1 : Blk wc w.heap.size 44 #[.slice A m cap] := h1'.trans H41.out
      have Hb1 := Lib.hid hb1
      have hlw : w.heap.size + 1 < wc.heap.size := by omega
      clear h1' hb1 hO hB hbB hFT hor hkm hq
      go_wp2_with fail
      obtain ⟨i0, hi, hz0, hz1, hz2⟩ := info_parts info1
      have hG0 : GIn wc w.heap.size (w.heap.size + 1) 0 (fun _ => 0) (wc.heap.size + 1) (.slice none 0 0) ((wc.alloc (.cells #[.slice none 0 0] 46)).alloc (.cells #[.int .i64 0] 3)) :=
        ⟨(Blk.new _ _ _).alloc _, fun j hj => absurd hj (Nat.not_lt_zero _), Blk.new_at (by simp only [World.size_alloc]), by omega, World.ownsRow_nil _ _ _ _, ((Below.refl _ _).alloc (Nat.le_refl _) _).alloc (by simp only [World.size_alloc]; omega) _⟩
      have HG0 := Lib.hid hG0
      clear hG0
      go_loopw [10] (fun s10 wr => ∃ (i : Nat) (b : Nat → Nat) (bc : Nat), s10 = .pointer (some ⟨bc, 0, none⟩) ∧ i ≤ m ∧ Hid (∃ v7, GIn wc w.heap.size (w.heap.size + 1) i b bc v7 wr)) (fun s10 wr => m - (inP s10 wr).toNat)
      case atStart => exact ⟨0, _, _, rfl, Nat.zero_le _, Lib.hid ⟨_, HG0.out⟩⟩
      case round =>
        obtain ⟨i, b, bc, rfl, him, HM⟩ := hrel
        obtain ⟨v7, hG⟩ := HM.out
        obtain ⟨A9, c9, rfl⟩ : ∃ A9 c9, v7 = .slice A9 i c9 := by
          rcases hG.2.2.2.2.1.2 with ⟨rfl, h0⟩ | ⟨g, cap, cur, rfl, _⟩
          · exact ⟨none, 0, by rw [h0]⟩
          · exact ⟨_, _, rfl⟩
        obtain ⟨hb0, hbs, hbc, hlt0, hown, hBr⟩ := id hG
        have HG := Lib.hid hG
        have hne : ∀ g t cs, Blk wr g t cs → t ≠ 1 → some g ≠ (Value.slice A9 i c9).ownBlock := fun g t cs h ht e => ht (own_type hown h e)
        have HO9 := Lib.hid (hown.alloc (.cells #[.func (.func 29) #[] #[.pointer (some ⟨w.heap.size, 0, none⟩), .pointer (some ⟨bc, 0, none⟩), .pointer (some ⟨w.heap.size + 1, 0, none⟩)]] 1))
        have HBC := Lib.hid hbc
        have HB9 := Lib.hid hb0
        have HNE := Lib.hid hne
        have hb1r := Hb1.out.below hBr Hb1.out.lt
        have g1 : wr.cell? ⟨w.heap.size, 0, none⟩ = some (.slice A m cap) := hb1r.cell 0
        have e9 : wr.cell? ⟨bc, 0, none⟩ = some (.int .i64 i) := hbc.cell 0
        have e0 : wr.cell? ⟨wc.heap.size, 0, none⟩ = some (.slice A9 i c9) := hb0.cell 0
        have hwr := hBr.size
        have hbl := hbc.lt
        have hb0l := hb0.lt
        by_cases hlt : i < m
        · have hk1 : (i : Int) < (m : Int) := by omega
          have HLT := Lib.hid hlt
          clear hG hb0 hbs hbc hown hBr hne hb1r hlt him
          go_wp2_with (at_builtin; go_loud (refine wpList_append_own_at _ rfl (.tmp 58) (.tmp 60) 46 rfl wc.heap.size 1 i0 .nilFunc 1 8 Try.underlying46 hi hz0 hz1 hz2 rfl (by decide) _ i _ rfl HO9.out ⟨wr.heap.size, 0, none⟩ 1 1 [.func (.func 29) #[] #[.pointer (some ⟨w.heap.size, 0, none⟩), .pointer (some ⟨bc, 0, none⟩), .pointer (some ⟨w.heap.size + 1, 0, none⟩)]] rfl rfl (cell_one_new _ _ _) (by first | simp [Value.oneCell'] | fail "ONE") (by first | (unfold maxLen; omega) | fail "MAX") (by first | omega | fail "OM") (by first | go_size | fail "SIZE") ?_; intro v1 w1 hown1 hg1 hnil hat; obtain ⟨A8, c8, rfl⟩ := own_form1 hown1; have HO1 := Lib.hid hown1; have HG1 := Lib.hid hg1; have e9' : w1.cell? ⟨bc, 0, none⟩ = some (.int .i64 i) := ((HBC.out.alloc _).grown hg1 (HNE.out _ _ _ HBC.out (by decide))).cell 0; have hb9w := (HB9.out.alloc (.cells #[.func (.func 29) #[] #[.pointer (some ⟨w.heap.size, 0, none⟩), .pointer (some ⟨bc, 0, none⟩), .pointer (some ⟨w.heap.size + 1, 0, none⟩)]] 1)).grown hg1 (HNE.out _ _ _ HB9.out (by decide)); have e0' : w1.cell? ⟨wc.heap.size, 0, none⟩ = some (.slice A9 i c9) := hb9w.cell 0; have z0' : w1.frozen? ⟨wc.heap.size, 0, none⟩ = false := hb9w.frozen 0; have hs1' := hg1.size; have hbne : bc ≠ wc.heap.size := Nat.ne_of_gt hlt0; clear hnil hat))
          go_roundw
          case rel => exact ⟨i + 1, fun j => if j = i then bc else b j, w1.heap.size, rfl, HLT.out, Lib.hid ⟨_, gin_step HG.out HO1.out HG1.out⟩⟩
          case measure =>
            have h1 := inP_eq e9
            have h2 := inP_eq (w := (w1.setCell ⟨wc.heap.size, 0, none⟩ (.slice A8 (i + 1) c8)).alloc (.cells #[.int .i64 ((i + 1 : Nat) : Int)] 3)) (a := ⟨w1.heap.size, 0, none⟩) (i := i + 1) ((Blk.new_at (by simp [World.setCell])).cell 0)
            have h3 := HLT.out
            have hc1 : (((i + 1 : Nat)) : Int) = (i : Int) + 1 := by omega
            rw [hc1] at h2
            rw [h1, h2]
            omega
        · obtain rfl : m = i := by omega
          have hbr := hBr
          have hbd : ∀ i, i < m → Blk wr (b i) 3 #[.int .i64 i] ∧ b i < wr.heap.size ∧ b i ≠ w.heap.size + 1 := fun i hi => ⟨(hbs i hi).1, (hbs i hi).1.lt, by have := (hbs i hi).2; omega⟩
          obtain ⟨nq, hq, ht1, ht2, ht3, ht4⟩ := ft_seq HFT.out
          have hrec : Rec L m k nq hq := ⟨ht1, ht2, by rw [← ht4]; exact HOR.out, HKM.out⟩
          have hYc : Below w.heap.size w wc := HB4.out.trans (HB.out.mono (by omega))
          have hY : Below w.heap.size w wr := hYc.trans (hbr.mono (by omega))
          have hxs := HXS.out
          have hx4 := HX4.out
          have hal : Below wr.heap.size wr (((wr.alloc (.cells #[.int .i64 (-2)] 3)).alloc (.cells #[.int .i64 0, .int .i64 0] 23)).alloc (.cells #[.bool false] 4)) := (((Below.refl _ _).alloc (Nat.le_refl _) _).alloc (by simp only [World.size_alloc]; omega) _).alloc (by simp only [World.size_alloc]; omega) _
          have hc4 : Blk wr (w.heap.size + 1) 33 #[.slice none 0 0] := (H4c.out.below HB.out (by omega)).below hbr (by omega)
          have hxw : Below (w.heap.size + 1) X wr := HXX.out.trans ((HB.out.mono (by omega)).trans (hbr.mono (by omega)))
          have hP : P30 X wr (w.heap.size + 1) wr.heap.size [] (-2, 0, 0, false) [] (((wr.alloc (.cells #[.int .i64 (-2)] 3)).alloc (.cells #[.int .i64 0, .int .i64 0] 23)).alloc (.cells #[.bool false] 4)) :=
            ⟨⟨⟨⟨_, hc4.below hal hc4.lt, (by simp [abv_mem]), Own.nil _ _ _⟩, hxw.trans (hal.mono (by omega)), (fun s hs => by rw [List.append_nil] at hs; have := (abv_mem.1 hs).2; omega)⟩, ⟨by simp only [World.size_alloc]; omega, fun g hg _ => ⟨hal.block g hg, by simp⟩⟩⟩, ⟨((Blk.new _ _ _).alloc _).alloc _, by simp⟩, ⟨(Blk.new_at (by simp only [World.size_alloc])).alloc _, by simp⟩, ⟨Blk.new_at (by simp only [World.size_alloc]), by simp⟩⟩
          have hcg := caught_good (c := w.heap.size + 1) (p30_good X wr (w.heap.size + 1) wr.heap.size [] (-2, 0, 0, false)) (fun h => good_and (good_const _) (p30_good X wr (w.heap.size + 1) wr.heap.size (cat nq k) _)) (by intro X; simp [go_sem]) (run30 X wr (w.heap.size + 1) wr.heap.size w.heap.size wc.heap.size m cap k c9 A A9 b R L nq hq w hrec hm8 (by omega) (by omega) (by omega) hY HBX.out hb1r (by omega) (by omega) hbd HR.out HL.out (rowy_own1 hown (by intro k hk; simp [fsF, hk])) (fun a ha => by have := hown.lt a.block (by rw [ha]; rfl); omega) hb0 (by omega) (by omega)) [] _ (by simp) hP
          rw [← ht3, ← ht4] at hcg
          have HCG := Lib.hid hcg
          have HBR := Lib.hid hbr
          have HYY := Lib.hid hY
          clear hG hb0 hbs hown hBr hne hb1r hlt him HM hbc HBC HO9 HNE hbr hbd ht1 ht2 ht3 ht4 hrec hYc hY hxs hx4 hal hc4 hxw hP hcg
          have hk1 : ¬ (m : Int) < (m : Int) := by omega
          go_wp2_with fail
          refine HCG.out.mono ?_
          rintro e w5 ⟨h', hce, hk5, rfl, ⟨⟨⟨r5, hb5, _, ho5⟩, hbl5, _⟩, hst5⟩, ⟨hk0, _⟩, ⟨hf5, _⟩, ⟨hi5, _⟩⟩
          have hkc : Kept (fun g => g = w.heap.size + 1) wr w5 := ⟨hk5.os, hk5.tape, hk5.output, by have := hk5.size; simp only [World.size_alloc] at this; omega, fun g hg hgc => (hst5.2 g hg hgc).1⟩
          have hw5 : Below w.heap.size w w5 := HYY.out.trans (hkc.below (fun g _ hg => by omega) (by omega))
          have hor5 := HO.out.below HBR.out
          have hO5 : Own w5 B [B] (.slice A3 q c3) N := hor5.kept hkc (fun g hg hx => by have := (hor5.row.lt g hg).1; omega)
          have hE5 := hkc.blk (HbB.out.below HBR.out hlB) (by omega)
          have HO5 := Lib.hid hO5
          have HOO5 := Lib.hid ho5
          have HW5 := Lib.hid hw5
          have hws5 := hw5.size
          have hlE := hE5.lt
          have hlC := hb5.lt
          have hlK := hk0.lt
          have hlF := hf5.lt
          have hlI := hi5.lt
          have e0 : w5.cell? ⟨B, 0, none⟩ = some (.int .i64 (num3 h).1) := hE5.cell 0
          have e1 : w5.cell? ⟨B, 1, none⟩ = some (.int .i64 (num3 h).2.1) := hE5.cell 1
          have e2 : w5.cell? ⟨B, 2, none⟩ = some (.int .i64 (num3 h).2.2) := hE5.cell 2
          have ec : w5.cell? ⟨w.heap.size + 1, 0, none⟩ = some r5 := hb5.cell 0
          have ek : w5.cell? ⟨wr.heap.size, 0, none⟩ = some (.int .i64 (outF h k).1) := hk0.cell 0
          have ef0 : w5.cell? ⟨wr.heap.size + 1, 0, none⟩ = some (.int .i64 (outF h k).2.1) := hf5.cell 0
          have ef1 : w5.cell? ⟨wr.heap.size + 1, 1, none⟩ = some (.int .i64 (outF h k).2.2.1) := hf5.cell 1
          have ei : w5.cell? ⟨wr.heap.size + 2, 0, none⟩ = some (.bool (outF h k).2.2.2) := hi5.cell 0
          obtain ⟨A5, c5, rfl⟩ := ho5.form
          rw [HQ.out] at HOO5 ec
          have hkp : (∃ c a, h = .fault c a) → 1 ≤ k := by
            rintro ⟨c', a', rfl⟩
            cases HFT.out with
            | step _ _ => omega
          clear hk5 hb5 ho5 hbl5 hE5 hO5 hw5 hf5 hi5 hst5 hkc hor5 hk0 HCG e9 g1 HbB HFT HOR HKM
          cases h with
          | fine =>
            clear hkp
            unfold CaughtEnd endV lastH num3 at hce
            subst hce
            simp only [num3, outF, atF] at e0 e1 e2 ek ef0 ef1 ei ⊢
            go_wp2_with (first
              | (go_at_call 27; refine (same_any _ _ _ _ _ _ _ N (HOO5.out.kept ((Kept.refl (fun _ => False) w5).alloc _) (fun _ _ h => h)) (HO5.out.kept ((Kept.refl (fun _ => False) w5).alloc _) (fun _ _ h => h))).mono ?_; rintro e w6 ⟨rfl, hb6⟩; have hB6 : Below w.heap.size w w6 := (HW5.out.alloc (by omega) _).trans (hb6.mono (by simp only [World.size_alloc]; omega)); have hs7 := hB6.size; obtain ⟨d6, d6'⟩ := bcell hb6)
              | (go_at_call 3; refine (runs_any _).mono ?_; rintro e w7 ⟨rfl, hb7⟩; have hB7 : Below w.heap.size w w7 := hB6.trans (hb7.mono hs7)))
            go_ret
            exact ⟨rfl, hB7⟩
          | other =>
            clear hkp
            unfold CaughtEnd endV lastH num3 at hce
            subst hce
            simp only [num3, outF, atF] at e0 e1 e2 ek ef0 ef1 ei ⊢
            go_wp2_with (first
              | (go_at_call 27; refine (same_any _ _ _ _ _ _ _ N (HOO5.out.kept ((Kept.refl (fun _ => False) w5).alloc _) (fun _ _ h => h)) (HO5.out.kept ((Kept.refl (fun _ => False) w5).alloc _) (fun _ _ h => h))).mono ?_; rintro e w6 ⟨rfl, hb6⟩; have hB6 : Below w.heap.size w w6 := (HW5.out.alloc (by omega) _).trans (hb6.mono (by simp only [World.size_alloc]; omega)); have hs7 := hB6.size; obtain ⟨d6, d6'⟩ := bcell hb6)
              | (go_at_call 3; refine (runs_any _).mono ?_; rintro e w7 ⟨rfl, hb7⟩; have hB7 : Below w.heap.size w w7 := hB6.trans (hb7.mono hs7)))
            go_ret
            exact ⟨rfl, hB7⟩
          | fault fc fa =>
            have hkp1 := hkp ⟨_, _, rfl⟩
            unfold CaughtEnd endV lastH num3 at hce
            subst hce
            simp only [num3, outF, atF] at e0 e1 e2 ek ef0 ef1 ei ⊢
            obtain ⟨z, hz⟩ : ∃ z, (k : Int) - 1 = z := ⟨_, rfl⟩
            have hz0' : 0 ≤ z := by omega
            rw [hz] at ek ⊢
            clear hkp hz hkp1
            go_wp2_with (first
              | (go_at_call 27; refine (same_any _ _ _ _ _ _ _ N (HOO5.out.kept ((Kept.refl (fun _ => False) w5).alloc _) (fun _ _ h => h)) (HO5.out.kept ((Kept.refl (fun _ => False) w5).alloc _) (fun _ _ h => h))).mono ?_; rintro e w6 ⟨rfl, hb6⟩; have hB6 : Below w.heap.size w w6 := (HW5.out.alloc (by omega) _).trans (hb6.mono (by simp only [World.size_alloc]; omega)); have hs7 := hB6.size; obtain ⟨d6, d6'⟩ := bcell hb6)
              | (go_at_call 3; refine (runs_any _).mono ?_; rintro e w7 ⟨rfl, hb7⟩; have hB7 : Below w.heap.size w w7 := hB6.trans (hb7.mono hs7)))
            go_ret
            exact ⟨rfl, hB7⟩
end Go.Proofs.Ytfkkhnceffhilaa
