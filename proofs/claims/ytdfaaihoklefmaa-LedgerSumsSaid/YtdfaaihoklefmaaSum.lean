/- Sum of talks. -/
import Derived.Test.YtdfaaihoklefmaaOf
namespace Go.Proofs.Ytdfaaihoklefmaa
open Go.ChangeShapes Go.WideShapes Go.ChangeAt Go.RowKit
set_option linter.unusedVariables false
set_option linter.unusedSimpArgs false

/-- What a talk is. -/
def kd (t : Talk) (F : Nat → ByteArray × ByteArray) : Nat := if t.r then 1 else if !t.e then 5 else if ownF t F then 2 else if storedF t F then 3 else 4
def cnt (K : Nat → Nat) (c : Nat) : Nat → Nat
  | 0 => 0
  | n + 1 => cnt K c n + if K n = c then 1 else 0
def Tal (K : Nat → Nat) (i : Nat) (c0 c1 c2 c3 c4 c5 : Int) : Prop :=
  c0 = cnt K 2 i + cnt K 3 i + cnt K 4 i ∧ c1 = cnt K 1 i ∧ c2 = cnt K 2 i ∧ c3 = cnt K 3 i ∧ c4 = cnt K 4 i ∧ c5 = cnt K 5 i
theorem cnt_le (K : Nat → Nat) (i : Nat) : cnt K 1 i + cnt K 2 i + cnt K 3 i + cnt K 4 i + cnt K 5 i ≤ i := by
  induction i with
  | zero => simp [cnt]
  | succ i ih => unfold cnt; (repeat' split) <;> omega
theorem cnt_all (K : Nat → Nat) (hK : ∀ i, 1 ≤ K i ∧ K i ≤ 5) (i : Nat) : cnt K 1 i + cnt K 2 i + cnt K 3 i + cnt K 4 i + cnt K 5 i = i := by
  induction i with
  | zero => simp [cnt]
  | succ i ih =>
    have h := hK i
    rcases (show K i = 1 ∨ K i = 2 ∨ K i = 3 ∨ K i = 4 ∨ K i = 5 by omega) with h' | h' | h' | h' | h' <;> simp [cnt, h'] <;> omega
theorem cnt_both (K K' : Nat → Nat) (c n : Nat) : ∀ k, cnt (fun i => if i < n then K i else K' (i - n)) c (n + k) = cnt K c n + cnt K' c k
  | 0 => by
    have : ∀ m, m ≤ n → cnt (fun i => if i < n then K i else K' (i - n)) c m = cnt K c m := by
      intro m
      induction m with
      | zero => intro _; rfl
      | succ m ih => intro h; unfold cnt; rw [ih (by omega), if_pos (show m < n by omega)]
    simpa [cnt] using this n (Nat.le_refl _)
  | k + 1 => by
    rw [← Nat.add_assoc]
    show cnt _ c (n + k) + _ = _
    rw [cnt_both K K' c n k]
    have : (if n + k < n then K (n + k) else K' (n + k - n)) = K' k := by rw [if_neg (show ¬ n + k < n by omega), Nat.add_sub_cancel_left]
    simp only [this, cnt]
    omega
theorem kd_rng (t : Talk) (F : Nat → ByteArray × ByteArray) : 1 ≤ kd t F ∧ kd t F ≤ 5 := by unfold kd; (repeat' split) <;> omega
theorem Tal.s1 {K : Nat → Nat} {i : Nat} {c0 c1 c2 c3 c4 c5 : Int} (h : Tal K i c0 c1 c2 c3 c4 c5) (hk : K i = 1) : Tal K (i + 1) c0 (c1 + 1) c2 c3 c4 c5 := by
  obtain ⟨h0, h1, h2, h3, h4, h5⟩ := h
  unfold Tal cnt
  simp only [hk]
  refine ⟨?_, ?_, ?_, ?_, ?_, ?_⟩ <;> simp <;> omega
theorem Tal.s2 {K : Nat → Nat} {i : Nat} {c0 c1 c2 c3 c4 c5 : Int} (h : Tal K i c0 c1 c2 c3 c4 c5) (hk : K i = 2) : Tal K (i + 1) (c0 + 1) c1 (c2 + 1) c3 c4 c5 := by
  obtain ⟨h0, h1, h2, h3, h4, h5⟩ := h
  unfold Tal cnt
  simp only [hk]
  refine ⟨?_, ?_, ?_, ?_, ?_, ?_⟩ <;> simp <;> omega
theorem Tal.s3 {K : Nat → Nat} {i : Nat} {c0 c1 c2 c3 c4 c5 : Int} (h : Tal K i c0 c1 c2 c3 c4 c5) (hk : K i = 3) : Tal K (i + 1) (c0 + 1) c1 c2 (c3 + 1) c4 c5 := by
  obtain ⟨h0, h1, h2, h3, h4, h5⟩ := h
  unfold Tal cnt
  simp only [hk]
  refine ⟨?_, ?_, ?_, ?_, ?_, ?_⟩ <;> simp <;> omega
theorem Tal.s4 {K : Nat → Nat} {i : Nat} {c0 c1 c2 c3 c4 c5 : Int} (h : Tal K i c0 c1 c2 c3 c4 c5) (hk : K i = 4) : Tal K (i + 1) (c0 + 1) c1 c2 c3 (c4 + 1) c5 := by
  obtain ⟨h0, h1, h2, h3, h4, h5⟩ := h
  unfold Tal cnt
  simp only [hk]
  refine ⟨?_, ?_, ?_, ?_, ?_, ?_⟩ <;> simp <;> omega
theorem Tal.s5 {K : Nat → Nat} {i : Nat} {c0 c1 c2 c3 c4 c5 : Int} (h : Tal K i c0 c1 c2 c3 c4 c5) (hk : K i = 5) : Tal K (i + 1) c0 c1 c2 c3 c4 (c5 + 1) := by
  obtain ⟨h0, h1, h2, h3, h4, h5⟩ := h
  unfold Tal cnt
  simp only [hk]
  refine ⟨?_, ?_, ?_, ?_, ?_, ?_⟩ <;> simp <;> omega

theorem results_cell1 {P : Program} {w : World} {fn : Func} {p : Tmp} {ty : TypeId} (h : fn.results = #[.cell p ty]) (tmps : Array Value) (g : Nat) (t : TypeId) (cs : Array Value) (d : TypeDesc)
    (hp : tmps.getD p undef = .pointer (some ⟨g, 0, none⟩)) (hg : Blk w g t cs)
    (hu : P.underlying ty = some d) (hd : (match d with | .struct _ | .array _ _ => true | _ => false) = true) (hi : (P.info? ty).map (·.size) = some cs.size) :
    (results fn tmps).run P w = .ok (.agg cs) w := by
  have hp' : tmps[p]?.getD undef = .pointer (some ⟨g, 0, none⟩) := by simpa using hp
  simp [results, h, hp', asAddr, run_loadVar_row w g t ty cs (0, 0) d hg hu hd hi]
abbrev z6 : Array Value := #[.int .i64 0, .int .i64 0, .int .i64 0, .int .i64 0, .int .i64 0, .int .i64 0]
set_option maxHeartbeats 4000000 in
set_option maxRecDepth 100000 in
theorem sum_any (A : Option Addr) (n cap : Nat) (T : Nat → Talk) (F : Nat → Nat → ByteArray × ByteArray) (w : World) (hn : n ≤ 100) (hR : Rowy w (.slice A n cap) n 9 (TV T)) (hT : ∀ i, i < n → Tok w (T i) (F i)) :
    Calls Try.prog 7 #[.slice A n cap] w fun e w' => (∃ c0 c1 c2 c3 c4 c5, e = .returned (.agg #[.int .i64 c0, .int .i64 c1, .int .i64 c2, .int .i64 c3, .int .i64 c4, .int .i64 c5]) ∧ Tal (fun i => kd (T i) (F i)) n c0 c1 c2 c3 c4 c5) ∧ Below w.heap.size w w' := by
  obtain ⟨A', cap', he, hlc, hcm, hcell⟩ := hR
  cases he
  have HC := Lib.hid hcell
  have HT := Lib.hid hT
  clear hcell hT
  unfold maxLen at hcm
  obtain ⟨K, hK⟩ : ∃ K : Nat → Nat, (fun i => kd (T i) (F i)) = K := ⟨_, rfl⟩
  rw [hK]
  go_enter Try.func7, Try.ntmps7
  go_wp2_with fail
  go_loopw [8] (fun s8 wr => ∃ (i : Nat) (c0 c1 c2 c3 c4 c5 : Int), s8 = .int .i64 i ∧ i ≤ n ∧ Hid (Blk wr w.heap.size 23 z6) ∧ Hid (Blk wr (w.heap.size + 1) 23 #[.int .i64 c0, .int .i64 c1, .int .i64 c2, .int .i64 c3, .int .i64 c4, .int .i64 c5]) ∧ Hid (Tal K i c0 c1 c2 c3 c4 c5) ∧ Below w.heap.size w wr) (fun s8 _ => n - (intOf s8).toNat)
  case atStart => exact ⟨0, 0, 0, 0, 0, 0, 0, rfl, Nat.zero_le _, Lib.hid ((Blk.new _ _ _).alloc _), Lib.hid (Blk.new_at (by simp only [World.size_alloc])), Lib.hid ⟨rfl, rfl, rfl, rfl, rfl, rfl⟩, by go_grown⟩
  case round =>
    obtain ⟨i, c0, c1, c2, c3, c4, c5, rfl, hi, HZ, HX, HK, hB⟩ := hrel
    have hwr := hB.size
    have hgl := HX.out.lt
    by_cases hlt : i < n
    · obtain ⟨b, off, rfl, gb, q⟩ := HC.out (by omega)
      obtain ⟨bd0, bd1, bd2, bd3, bd4, bd5⟩ : (0 ≤ c0 ∧ c0 ≤ 100) ∧ (0 ≤ c1 ∧ c1 ≤ 100) ∧ (0 ≤ c2 ∧ c2 ≤ 100) ∧ (0 ≤ c3 ∧ c3 ≤ 100) ∧ (0 ≤ c4 ∧ c4 ≤ 100) ∧ (0 ≤ c5 ∧ c5 ≤ 100) := by
        obtain ⟨h0, h1, h2, h3, h4, h5⟩ := HK.out
        have := cnt_le K i
        omega
      obtain ⟨y0, z0⟩ := bd0
      obtain ⟨y1, z1⟩ := bd1
      obtain ⟨y2, z2⟩ := bd2
      obtain ⟨y3, z3⟩ := bd3
      obtain ⟨y4, z4⟩ := bd4
      obtain ⟨y5, z5⟩ := bd5
      have HTi := Lib.hid (HT.out i hlt)
      have hKi : K i = kd (T i) (F i) := by rw [← hK]
      unfold Tok at HTi
      generalize F i = Fi at *
      obtain ⟨t, hTi⟩ : ∃ t, T i = t := ⟨_, rfl⟩
      rw [hTi] at HTi hKi
      obtain ⟨tp, tl, ts, tA, tn, tc, body, te, tr, cc, ca⟩ := t
      have e0 : wr.cell? ⟨b, off + i * 9, none⟩ = some (.int .i64 tp) := by rw [hB.cell (p := ⟨b, _, none⟩) gb]; simpa [TV, hTi, Nat.add_assoc] using q i 0 hlt (by omega)
      have e1 : wr.cell? ⟨b, off + i * 9 + 1, none⟩ = some (.int .i64 tl) := by rw [hB.cell (p := ⟨b, _, none⟩) gb]; simpa [TV, hTi, Nat.add_assoc] using q i 1 hlt (by omega)
      have e2 : wr.cell? ⟨b, off + i * 9 + 2, none⟩ = some (.int .i64 ts) := by rw [hB.cell (p := ⟨b, _, none⟩) gb]; simpa [TV, hTi, Nat.add_assoc] using q i 2 hlt (by omega)
      have e3 : wr.cell? ⟨b, off + i * 9 + 3, none⟩ = some (.slice tA tn tc) := by rw [hB.cell (p := ⟨b, _, none⟩) gb]; simpa [TV, hTi, Nat.add_assoc] using q i 3 hlt (by omega)
      have e4 : wr.cell? ⟨b, off + i * 9 + 4, none⟩ = some (.string body) := by rw [hB.cell (p := ⟨b, _, none⟩) gb]; simpa [TV, hTi, Nat.add_assoc] using q i 4 hlt (by omega)
      have e5 : wr.cell? ⟨b, off + i * 9 + 5, none⟩ = some (.bool te) := by rw [hB.cell (p := ⟨b, _, none⟩) gb]; simpa [TV, hTi, Nat.add_assoc] using q i 5 hlt (by omega)
      have e6 : wr.cell? ⟨b, off + i * 9 + 6, none⟩ = some (.bool tr) := by rw [hB.cell (p := ⟨b, _, none⟩) gb]; simpa [TV, hTi, Nat.add_assoc] using q i 6 hlt (by omega)
      have e7 : wr.cell? ⟨b, off + i * 9 + 7, none⟩ = some (.int .i64 cc) := by rw [hB.cell (p := ⟨b, _, none⟩) gb]; simpa [TV, hTi, Nat.add_assoc] using q i 7 hlt (by omega)
      have e8 : wr.cell? ⟨b, off + i * 9 + 8, none⟩ = some (.int .i64 ca) := by rw [hB.cell (p := ⟨b, _, none⟩) gb]; simpa [TV, hTi, Nat.add_assoc] using q i 8 hlt (by omega)
      clear q hTi
      have x0 : wr.cell? ⟨w.heap.size + 1, 0, none⟩ = some (.int .i64 c0) := HX.out.cell 0
      have f0 : wr.frozen? ⟨w.heap.size + 1, 0, none⟩ = false := HX.out.frozen 0
      have x1 : wr.cell? ⟨w.heap.size + 1, 1, none⟩ = some (.int .i64 c1) := HX.out.cell 1
      have f1 : wr.frozen? ⟨w.heap.size + 1, 1, none⟩ = false := HX.out.frozen 1
      have x2 : wr.cell? ⟨w.heap.size + 1, 2, none⟩ = some (.int .i64 c2) := HX.out.cell 2
      have f2 : wr.frozen? ⟨w.heap.size + 1, 2, none⟩ = false := HX.out.frozen 2
      have x3 : wr.cell? ⟨w.heap.size + 1, 3, none⟩ = some (.int .i64 c3) := HX.out.cell 3
      have f3 : wr.frozen? ⟨w.heap.size + 1, 3, none⟩ = false := HX.out.frozen 3
      have x4 : wr.cell? ⟨w.heap.size + 1, 4, none⟩ = some (.int .i64 c4) := HX.out.cell 4
      have f4 : wr.frozen? ⟨w.heap.size + 1, 4, none⟩ = false := HX.out.frozen 4
      have x5 : wr.cell? ⟨w.heap.size + 1, 5, none⟩ = some (.int .i64 c5) := HX.out.cell 5
      have f5 : wr.frozen? ⟨w.heap.size + 1, 5, none⟩ = false := HX.out.frozen 5
      have hki : (i : Int) < (n : Int) := by omega
      have hk0 : 0 ≤ (i : Int) := by omega
      have hb1 : b < wr.heap.size := by omega
      have hb2 : w.heap.size < wr.heap.size := by omega
      have hb3 : w.heap.size + 1 < wr.heap.size + 1 := by omega
      have hb4 : w.heap.size < wr.heap.size + 1 := by omega
      clear hK
      cases tr
      · cases te
        · have hk : K i = 5 := by rw [hKi]; rfl
          clear hKi
          go_wp2_with fail
          go_roundw
          case rel => exact ⟨i + 1, c0, c1, c2, c3, c4, c5 + 1, by go_num, by omega, Lib.hid ((HZ.out.far (by simp) _).alloc _), Lib.hid ((HX.out.put 5 (.int .i64 (c5 + 1))).alloc _), Lib.hid (HK.out.s5 hk), by go_grown⟩
          case measure => simp [intOf]; omega

        · obtain ⟨o, ho⟩ : ∃ o, ownF ⟨tp, tl, ts, tA, tn, tc, body, true, false, cc, ca⟩ Fi = o := ⟨_, rfl⟩
          cases o
          · obtain ⟨st, hst⟩ : ∃ st, storedF ⟨tp, tl, ts, tA, tn, tc, body, true, false, cc, ca⟩ Fi = st := ⟨_, rfl⟩
            cases st
            · have hk : K i = 4 := by rw [hKi]; unfold kd; simp only [ho, hst]; rfl
              clear hKi
              go_wp2_with (first
                | (go_at_call 14; refine (own_any ⟨tp, tl, ts, tA, tn, tc, body, true, false, cc, ca⟩ Fi _ (HTi.out.below (by go_grown) (Nat.le_refl _))).mono ?_; rintro e w1 ⟨rfl, hB1⟩; rw [ho]; have hA1 : Below w.heap.size w w1 := Below.trans (by go_grown) (hB1.mono (by go_size)); have hs1 := hA1.size; obtain ⟨d1, g1⟩ := bcell hB1; have k1 : wr.heap.size < w1.heap.size := Nat.lt_of_lt_of_le (by go_simp) hB1.size; have HX1 := Lib.hid ((HX.out.alloc (.cells #[.int .i64 tp, .int .i64 tl, .int .i64 ts, .slice tA tn tc, .string body, .bool true, .bool false, .int .i64 cc, .int .i64 ca] 29)).below hB1 (by simp only [World.size_alloc]; omega)); have HZ1 := Lib.hid ((HZ.out.alloc (.cells #[.int .i64 tp, .int .i64 tl, .int .i64 ts, .slice tA tn tc, .string body, .bool true, .bool false, .int .i64 cc, .int .i64 ca] 29)).below hB1 (by simp only [World.size_alloc]; omega)))
                | (go_at_call 15; refine (stored_any ⟨tp, tl, ts, tA, tn, tc, body, true, false, cc, ca⟩ Fi _ (HTi.out.below hA1 (Nat.le_refl _))).mono ?_; rintro e w2 ⟨rfl, hB2⟩; rw [hst]; have hA2 : Below w.heap.size w w2 := Below.trans hA1 (hB2.mono hs1); have hs2 := hA2.size; obtain ⟨d2, g2⟩ := bcell hB2; have k2 : wr.heap.size < w2.heap.size := Nat.lt_of_lt_of_le k1 hB2.size; have HX2 := Lib.hid (HX1.out.below hB2 (by omega)); have HZ2 := Lib.hid (HZ1.out.below hB2 (by omega)); have X0 := HX2.out.cell 0; have X3 := HX2.out.cell 3; have X4 := HX2.out.cell 4; have G0 := HX2.out.frozen 0; have G3 := HX2.out.frozen 3; have G4 := HX2.out.frozen 4; simp at X0 X3 X4))
              go_roundw
              case rel => exact ⟨i + 1, c0 + 1, c1, c2, c3, c4 + 1, c5, by go_num, by omega, Lib.hid ((HZ2.out.far (by simp) _).far (by simp) _), Lib.hid ((HX2.out.put 4 (.int .i64 (c4 + 1))).put 0 (.int .i64 (c0 + 1))), Lib.hid (HK.out.s4 hk), by go_grown⟩
              case measure => simp [intOf]; omega

            · have hk : K i = 3 := by rw [hKi]; unfold kd; simp only [ho, hst]; rfl
              clear hKi
              go_wp2_with (first
                | (go_at_call 14; refine (own_any ⟨tp, tl, ts, tA, tn, tc, body, true, false, cc, ca⟩ Fi _ (HTi.out.below (by go_grown) (Nat.le_refl _))).mono ?_; rintro e w1 ⟨rfl, hB1⟩; rw [ho]; have hA1 : Below w.heap.size w w1 := Below.trans (by go_grown) (hB1.mono (by go_size)); have hs1 := hA1.size; obtain ⟨d1, g1⟩ := bcell hB1; have k1 : wr.heap.size < w1.heap.size := Nat.lt_of_lt_of_le (by go_simp) hB1.size; have HX1 := Lib.hid ((HX.out.alloc (.cells #[.int .i64 tp, .int .i64 tl, .int .i64 ts, .slice tA tn tc, .string body, .bool true, .bool false, .int .i64 cc, .int .i64 ca] 29)).below hB1 (by simp only [World.size_alloc]; omega)); have HZ1 := Lib.hid ((HZ.out.alloc (.cells #[.int .i64 tp, .int .i64 tl, .int .i64 ts, .slice tA tn tc, .string body, .bool true, .bool false, .int .i64 cc, .int .i64 ca] 29)).below hB1 (by simp only [World.size_alloc]; omega)))
                | (go_at_call 15; refine (stored_any ⟨tp, tl, ts, tA, tn, tc, body, true, false, cc, ca⟩ Fi _ (HTi.out.below hA1 (Nat.le_refl _))).mono ?_; rintro e w2 ⟨rfl, hB2⟩; rw [hst]; have hA2 : Below w.heap.size w w2 := Below.trans hA1 (hB2.mono hs1); have hs2 := hA2.size; obtain ⟨d2, g2⟩ := bcell hB2; have k2 : wr.heap.size < w2.heap.size := Nat.lt_of_lt_of_le k1 hB2.size; have HX2 := Lib.hid (HX1.out.below hB2 (by omega)); have HZ2 := Lib.hid (HZ1.out.below hB2 (by omega)); have X0 := HX2.out.cell 0; have X3 := HX2.out.cell 3; have X4 := HX2.out.cell 4; have G0 := HX2.out.frozen 0; have G3 := HX2.out.frozen 3; have G4 := HX2.out.frozen 4; simp at X0 X3 X4))
              go_roundw
              case rel => exact ⟨i + 1, c0 + 1, c1, c2, c3 + 1, c4, c5, by go_num, by omega, Lib.hid ((HZ2.out.far (by simp) _).far (by simp) _), Lib.hid ((HX2.out.put 3 (.int .i64 (c3 + 1))).put 0 (.int .i64 (c0 + 1))), Lib.hid (HK.out.s3 hk), by go_grown⟩
              case measure => simp [intOf]; omega

          · have hk : K i = 2 := by rw [hKi]; unfold kd; simp only [ho]; rfl
            clear hKi
            go_wp2_with (go_at_call 14; refine (own_any ⟨tp, tl, ts, tA, tn, tc, body, true, false, cc, ca⟩ Fi _ (HTi.out.below (by go_grown) (Nat.le_refl _))).mono ?_; rintro e w1 ⟨rfl, hB1⟩; rw [ho]; have hA1 : Below w.heap.size w w1 := Below.trans (by go_grown) (hB1.mono (by go_size)); have hs1 := hA1.size; obtain ⟨d1, g1⟩ := bcell hB1; have k1 : wr.heap.size < w1.heap.size := Nat.lt_of_lt_of_le (by go_simp) hB1.size; have HX1 := Lib.hid ((HX.out.alloc (.cells #[.int .i64 tp, .int .i64 tl, .int .i64 ts, .slice tA tn tc, .string body, .bool true, .bool false, .int .i64 cc, .int .i64 ca] 29)).below hB1 (by simp only [World.size_alloc]; omega)); have HZ1 := Lib.hid ((HZ.out.alloc (.cells #[.int .i64 tp, .int .i64 tl, .int .i64 ts, .slice tA tn tc, .string body, .bool true, .bool false, .int .i64 cc, .int .i64 ca] 29)).below hB1 (by simp only [World.size_alloc]; omega)))
            go_roundw
            case rel => exact ⟨i + 1, c0 + 1, c1, c2 + 1, c3, c4, c5, by go_num, by omega, Lib.hid ((HZ1.out.far (by simp) _).far (by simp) _), Lib.hid ((HX1.out.put 2 (.int .i64 (c2 + 1))).put 0 (.int .i64 (c0 + 1))), Lib.hid (HK.out.s2 hk), by go_grown⟩
            case measure => simp [intOf]; omega

      · have hk : K i = 1 := by rw [hKi]; rfl
        clear hKi
        go_wp2_with fail
        go_roundw
        case rel => exact ⟨i + 1, c0, c1 + 1, c2, c3, c4, c5, by go_num, by omega, Lib.hid ((HZ.out.far (by simp) _).alloc _), Lib.hid ((HX.out.put 1 (.int .i64 (c1 + 1))).alloc _), Lib.hid (HK.out.s1 hk), by go_grown⟩
        case measure => simp [intOf]; omega

    · obtain rfl : i = n := by omega
      have hb2 : w.heap.size < wr.heap.size := by omega
      go_wp2_with (first
        | (refine wpList_load_row rfl 23 (.tmp 3) rfl (w.heap.size + 1) rfl 23 _ _ _ HX.out Try.underlying23 rfl (by kernel_rfl) ?_)
        | (refine wpList_store_row rfl 23 (.tmp 2) (.tmp 50) rfl w.heap.size rfl _ rfl 23 _ HZ.out rfl (by kernel_rfl) (by simp [Value.oneCell']) ?_; intro X2 hX5 hgr hsz))
      refine bodyPost_ret (results_cell1 rfl _ w.heap.size 23 _ _ rfl hX5 Try.underlying23 rfl (by kernel_rfl)) rfl ⟨⟨c0, c1, c2, c3, c4, c5, rfl, HK.out⟩, hB.grown hgr (by omega) (fun g hg => by cases hg; omega)⟩
end Go.Proofs.Ytdfaaihoklefmaa
