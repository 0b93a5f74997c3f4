/- LedgerOwn. -/
import Derived.Test.YtdfaaihoklefmaaTells
import Derived.Laws.BytesString
import Derived.Laws.CopyOwn
namespace Go.Proofs.Ytdfaaihoklefmaa
open Go.ChangeShapes Go.WideShapes Go.ChangeAt Go.RowKit Go.Sort
set_option linter.unusedVariables false
set_option linter.unusedSimpArgs false

theorem run_b2s (w : World) (a b c : Int) (g : Nat) (hg : w.heap.size = g) : (convert 43 9 (.slice (some ⟨g, 0, none⟩) 3 3)).run Try.prog (w.alloc (.cells #[.int .u8 a, .int .u8 b, .int .u8 c] 5)) =
    .ok (.string ⟨#[UInt8.ofNat a.toNat, UInt8.ofNat b.toNat, UInt8.ofNat c.toNat]⟩) (w.alloc (.cells #[.int .u8 a, .int .u8 b, .int .u8 c] 5)) := by
  subst hg
  rw [run_convert_bytes_string _ 43 9 5 _ 3 3 Try.underlying43 Try.underlying5 Try.underlying9]
  have hc := (Blk.new w 5 #[.int .u8 a, .int .u8 b, .int .u8 c]).cell
  have hl := run_loadCells_list (P := Try.prog) (w.alloc (.cells #[.int .u8 a, .int .u8 b, .int .u8 c] 5)) ⟨w.heap.size, 0, none⟩ [.int .u8 a, .int .u8 b, .int .u8 c] (fun j v hj => by
    rw [add_plain, Nat.zero_add, hc j]
    simpa using hj)
  rw [run_bytesToString _ _ 3 3 [a, b, c] hl]
  rfl
attribute [local go_sem] run_b2s
/-- Three digits. -/
abbrev th (K : Int) : ByteArray := ⟨#[UInt8.ofNat (48 + K / 100).toNat, UInt8.ofNat (48 + K / 10 % 10).toNat, UInt8.ofNat (48 + K % 10).toNat]⟩
theorem u8n (x : Int) (h0 : 0 ≤ x) (h1 : x < 256) : ((UInt8.ofNat x.toNat).toNat : Int) = x := by
  rw [UInt8.toNat_ofNat']
  omega
theorem st_th (K : Int) (h0 : 0 ≤ K) (h1 : K ≤ 999) : stF (th K) = K := by
  have b0 : bt (th K) 0 = 48 + K / 100 := u8n _ (by omega) (by omega)
  have b1 : bt (th K) 1 = 48 + K / 10 % 10 := u8n _ (by omega) (by omega)
  have b2 : bt (th K) 2 = 48 + K % 10 := u8n _ (by omega) (by omega)
  have hs : (th K).size = 3 := rfl
  unfold stF dgt
  rw [b0, b1, b2, if_pos ⟨hs, by omega, by omega, by omega⟩]
  omega
theorem own_plain (t : Talk) (F : Nat → ByteArray × ByteArray) (h : ownF t F = true) : t.body.toList = [] ∧ (fv F nVia t.n 0).isSome = false ∧ storedF t F = false ∧ t.n = 2 := by
  have h' := h
  unfold ownF at h
  simp only [Bool.and_eq_true, decide_eq_true_eq] at h
  obtain ⟨⟨⟨h1, h2, h3⟩, h4⟩, h5⟩ := h
  refine ⟨by simpa using h5, ?_, by unfold storedF; rw [h']; simp, h3⟩
  rw [h3] at h1 h2 h4 ⊢
  have a1 : fv F nStatus 2 0 ≠ none := by
    intro e; rw [e, st_nil] at h1; omega
  have a2 : fv F nLength 2 0 ≠ none := by
    intro e; rw [e] at h4; simp [fst, ByteArray.toList_eq] at h4
  obtain ⟨n1, n2, n3, n4, n5, n6⟩ := ne_names
  unfold fv at a1 a2 ⊢
  unfold fv at a1 a2 ⊢
  unfold fv at a1 a2 ⊢
  generalize (F 0).1 = x at *
  generalize (F (0 + 1)).1 = y at *
  by_cases e0 : x = nVia
  · subst e0
    rw [if_neg (Ne.symm (Ne.symm n4))] at a1
    rw [if_neg n6] at a2
    by_cases e1 : y = nStatus
    · rw [if_neg (by rw [e1]; exact n1)] at a2; exact absurd rfl a2
    · rw [if_neg e1] at a1; exact absurd rfl a1
  · rw [if_neg e0]
    by_cases e1 : y = nVia
    · subst e1
      rw [if_neg n4] at a1
      rw [if_neg n6] at a2
      by_cases e2 : x = nStatus
      · rw [if_neg (by rw [e2]; exact n1)] at a2; exact absurd rfl a2
      · rw [if_neg e2] at a1; exact absurd rfl a1
    · rw [if_neg e1]; rfl

set_option maxHeartbeats 8000000 in
set_option maxRecDepth 100000 in
theorem ownlaw_any (t : Talk) (F : Nat → ByteArray × ByteArray) (x : Int) (w : World) (x0 : 0 ≤ x) (x1 : x ≤ 65535) (hR : Rowy w (.slice t.A t.n t.cap) t.n 2 (FV F)) :
    Calls Try.prog 6 #[t.val, .int .u16 x] w fun e w' => e = .returned (.bool true) ∧ Below w.heap.size w w' := by
  have HR := Lib.hid hR
  obtain ⟨K, hK⟩ : ∃ K, x % 1000 = K := ⟨_, rfl⟩
  have k0 : 0 ≤ K := by omega
  have k1 : K ≤ 999 := by omega
  have HK := Lib.hid (st_th K k0 k1)
  have hop := own_plain t F
  obtain ⟨p, l, s, A, n, cap, body, te, tr, c, a⟩ := t
  clear hR
  obtain ⟨o, ho⟩ : ∃ o, ownF ⟨p, l, s, A, n, cap, body, te, tr, c, a⟩ F = o := ⟨_, rfl⟩
  obtain ⟨sb, hsb⟩ : ∃ o, storedF ⟨p, l, s, A, n, cap, body, te, tr, c, a⟩ F = o := ⟨_, rfl⟩
  obtain ⟨ov, hov⟩ : ∃ o, fv F nVia n 0 = o := ⟨_, rfl⟩
  have hop' : o = true → body.toList = [] ∧ ov.isSome = false ∧ sb = false ∧ n = 2 := fun e => by rw [← hsb, ← hov]; exact hop (ho.trans e)
  have HO := Lib.hid ho
  have HSB := Lib.hid hsb
  have HOV := Lib.hid hov
  have HOP := Lib.hid hop'
  clear ho hsb hov hop hop'
  go_enter Try.func6, Try.ntmps6
  go_wp2_with fail
  refine (light_any A n cap F _ (HR.out.below (by go_grown) (Nat.le_refl _))).mono ?_
  rintro e w1 ⟨⟨bb, rfl⟩, hB1⟩
  have HX1 := (Blk.new w 29 (Talk.cells ⟨p, l, s, A, n, cap, body, te, tr, c, a⟩)).below hB1 (by simp only [World.size_alloc]; omega)
  have hA1 : Below w.heap.size w w1 := Below.trans (by go_grown) (hB1.mono (by simp only [World.size_alloc]; omega))
  have hs1 := hA1.size
  have hl1 := HX1.lt
  cases bb
  · go_wp2_with (go_at_call 3; refine (runs_any _).mono ?_; rintro e w2 ⟨rfl, hB2⟩)
    go_ret
    exact ⟨rfl, hA1.trans (hB2.mono hs1)⟩
  · have HT1 : Hid (Tok w1 ⟨p, l, s, A, n, cap, body, te, tr, c, a⟩ F) := Lib.hid (HR.out.below hA1 (Nat.le_refl _))
    have x0 := cell_regrown (show w1.cell? ⟨w.heap.size, 0, none⟩ = some (.int .i64 p) from HX1.cell 0)
    have x1 := cell_regrown (show w1.cell? ⟨w.heap.size, 1, none⟩ = some (.int .i64 l) from HX1.cell 1)
    have x2 := cell_regrown (show w1.cell? ⟨w.heap.size, 2, none⟩ = some (.int .i64 s) from HX1.cell 2)
    have x3 := cell_regrown (show w1.cell? ⟨w.heap.size, 3, none⟩ = some (.slice A n cap) from HX1.cell 3)
    have x4 := cell_regrown (show w1.cell? ⟨w.heap.size, 4, none⟩ = some (.string body) from HX1.cell 4)
    have x5 := cell_regrown (show w1.cell? ⟨w.heap.size, 5, none⟩ = some (.bool te) from HX1.cell 5)
    have x6 := cell_regrown (show w1.cell? ⟨w.heap.size, 6, none⟩ = some (.bool tr) from HX1.cell 6)
    have x7 := cell_regrown (show w1.cell? ⟨w.heap.size, 7, none⟩ = some (.int .i64 c) from HX1.cell 7)
    have x8 := cell_regrown (show w1.cell? ⟨w.heap.size, 8, none⟩ = some (.int .i64 a) from HX1.cell 8)
    clear hB1
    have HX := Lib.hid HX1
    clear HX1
    go_wp2_with fail
    refine wp_region_quiet_below (by kernel_rfl) (by kernel_rfl) ?_
    repeat (first | go_big_quiet_step (first | exact own_q ⟨p, l, s, A, n, cap, body, te, tr, c, a⟩ F _ HO _ HT1 _ _ | exact stored_q ⟨p, l, s, A, n, cap, body, te, tr, c, a⟩ F _ HSB _ HT1 _ _) | quiet_step (first | exact own_q ⟨p, l, s, A, n, cap, body, te, tr, c, a⟩ F _ HO _ HT1 _ _ | exact stored_q ⟨p, l, s, A, n, cap, body, te, tr, c, a⟩ F _ HSB _ HT1 _ _))
    refine wpQuiet_nil ?_
    intro W2 hW2
    obtain ⟨⟨dq, osq⟩, rfl⟩ := hW2
    have hBq := below_regrown w1 dq osq
    have hA : Below w.heap.size w (grow (redrawn w1 dq) osq) := hA1.trans (hBq.mono hs1)
    have HT : Hid (Tok (grow (redrawn w1 dq) osq) ⟨p, l, s, A, n, cap, body, te, tr, c, a⟩ F) := Lib.hid (HT1.out.below hBq (Nat.le_refl _))
    have HXW : Hid (Blk (grow (redrawn w1 dq) osq) w.heap.size 29 (Talk.cells ⟨p, l, s, A, n, cap, body, te, tr, c, a⟩)) := Lib.hid (HX.out.below hBq hl1)
    clear hBq
    generalize grow (redrawn w1 dq) osq = W at *
    clear HX HT1 x0 x1 x2 x3 x4 x5 x6 x7 x8
    have y0 : W.cell? ⟨w.heap.size, 0, none⟩ = some (.int .i64 p) := HXW.out.cell 0
    have y1 : W.cell? ⟨w.heap.size, 1, none⟩ = some (.int .i64 l) := HXW.out.cell 1
    have y2 : W.cell? ⟨w.heap.size, 2, none⟩ = some (.int .i64 s) := HXW.out.cell 2
    have y3 : W.cell? ⟨w.heap.size, 3, none⟩ = some (.slice A n cap) := HXW.out.cell 3
    have y4 : W.cell? ⟨w.heap.size, 4, none⟩ = some (.string body) := HXW.out.cell 4
    have y5 : W.cell? ⟨w.heap.size, 5, none⟩ = some (.bool te) := HXW.out.cell 5
    have y6 : W.cell? ⟨w.heap.size, 6, none⟩ = some (.bool tr) := HXW.out.cell 6
    have y7 : W.cell? ⟨w.heap.size, 7, none⟩ = some (.int .i64 c) := HXW.out.cell 7
    have y8 : W.cell? ⟨w.heap.size, 8, none⟩ = some (.int .i64 a) := HXW.out.cell 8
    have hsW := hA.size
    have hlW := HXW.out.lt
    have cas : (o = false ∨ (o = true ∧ body.toList = [] ∧ body.toList.isEmpty = true ∧ ov.isSome = false ∧ sb = false ∧ (n : Int) = 2)) := by
      cases o
      · exact Or.inl rfl
      · obtain ⟨q1, q2, q3, q4⟩ := HOP.out rfl
        exact Or.inr ⟨rfl, q1, by rw [q1]; rfl, q2, q3, by omega⟩
    have cak : (((K == 502) = true ∧ decide (502 ≤ K ∧ K ≤ 504) = true) ∨ ((K == 502) = false ∧ (K == 503) = true ∧ decide (502 ≤ K ∧ K ≤ 504) = true) ∨ ((K == 502) = false ∧ (K == 503) = false ∧ (K == 504) = true ∧ decide (502 ≤ K ∧ K ≤ 504) = true) ∨ ((K == 502) = false ∧ (K == 503) = false ∧ (K == 504) = false ∧ decide (502 ≤ K ∧ K ≤ 504) = false)) := by
      simp
      omega
    rcases cas with rfl | ⟨rfl, q1, q2, q3, q4, q5⟩ <;> rcases cak with ⟨j1, j4⟩ | ⟨j1, j2, j4⟩ | ⟨j1, j2, j3, j4⟩ | ⟨j1, j2, j3, j4⟩
    all_goals
      go_wp2_with (first
        | (go_at_call 11; refine (value_any ⟨p, l, s, A, n, cap, body, te, tr, c, a⟩ F nVia _ HT.out).mono ?_; rintro e w4 ⟨rfl, hB4⟩; rw [HOV.out]; have hs4 := hB4.size; have HX4 := Lib.hid (HXW.out.below hB4 hlW); have hA4 : Below w.heap.size w w4 := hA.trans (hB4.mono hsW))
        | (go_at_call 8; refine (of_any _ 4 4 (g4 nStatus (th K) nLength ⟨#[48]⟩) _ (by decide) (rowy4 (w4.alloc (.cells #[.int .u8 (48 + K / 100), .int .u8 (48 + K / 10 % 10), .int .u8 (48 + K % 10)] 5)) _ _ (by first | rfl | go_size) _ _ _ _)).mono ?_; rintro e w5 ⟨⟨v5, rfl, hR5⟩, hB5⟩; have hR5 : Rowy w5 v5 2 2 (FV (twos (g4 nStatus (th K) nLength ⟨#[48]⟩))) := hR5; obtain ⟨A5, k5, rfl, _⟩ := id hR5; have hs5 := hB5.size)
        | (go_at_call 14; refine (own_any ⟨0, 0, 0, A5, 2, k5, ⟨#[]⟩, false, false, 0, 0⟩ (twos (g4 nStatus (th K) nLength ⟨#[48]⟩)) w5 hR5).mono ?_; rintro e w6 ⟨rfl, hB6⟩; rw [own_three, HK.out]; have HX6 := Lib.hid ((((HX4.out.alloc _).alloc _).below hB5 (by simp only [World.size_alloc]; omega)).below hB6 (by simp only [World.size_alloc] at hs5; omega)); have hA6 : Below w.heap.size w w6 := ((((hA4.alloc (by omega) _).alloc (by simp only [World.size_alloc]; omega) _).trans (hB5.mono (by simp only [World.size_alloc]; omega))).trans (hB6.mono (by simp only [World.size_alloc] at hs5; omega))); have z3 : w6.cell? ⟨w.heap.size, 3, none⟩ = some (.slice A n cap) := HX6.out.cell 3; have z4 : w6.cell? ⟨w.heap.size, 4, none⟩ = some (.string body) := HX6.out.cell 4; have hs6 := hA6.size)
        | (go_at_call 3; refine (runs_any _).mono ?_; rintro e w7 ⟨rfl, hB7⟩))
      go_ret
      exact ⟨rfl, hA6.trans (hB7.mono hs6)⟩
end Go.Proofs.Ytdfaaihoklefmaa
