/- ShapeTells. -/
import Derived.Test.YtolpfbdklcjlkaaRShapeE
namespace Go.Proofs.Ytolpfbdklcjlkaa
open Go.ChangeShapes Go.WideShapes Go.ChangeAt Go.RowKit
set_option linter.unusedVariables false
set_option linter.unusedSimpArgs false

theorem rs_is (ty fl st : Int) (v : Value) (L : List Int) (w : World) (hR : BS w v L) (hb : Byt L) (pty pst pco pla pmo pcs b1 b2 b3 : Int) (pe pf pk : Bool) (pbody : List Int) (pn : Nat) (pZ : Nat → Int × Int) (hof : Hid (ofF ty fl st L = (⟨pty, pst, pe, pf, pk, pbody, pco, pla, pmo, pcs, pn, pZ⟩, (b1, b2, b3)))) :
    Calls Try.prog 15 #[.agg (fC ty fl st v)] w fun e w' => (∃ Ab cb As cs, e = .returned (.tuple #[.agg #[.int .i64 pty, .int .i64 pst, .bool pe, .bool pf, .bool pk, .slice Ab pbody.length cb, .int .i64 pco, .int .i64 pla, .int .i64 pmo, .int .i64 pcs, .slice As pn cs], .agg #[.int .i64 b1, .int .i64 b2, .int .i64 b3]]) ∧ w'.ownsRow w.heap.size 5 1 (.slice Ab pbody.length cb) pbody.length (bv pbody) ∧ w'.ownsRow w.heap.size 54 2 (.slice As pn cs) pn (rowsOf (SV pZ) 2 pn)) ∧ Below w.heap.size w w' := by
  refine (rshape_any ty fl st v L w hR hb).mono ?_
  rintro e w' ⟨hans, hB⟩
  rw [hof.out] at hans
  obtain ⟨v, rfl, vb, vs, rfl, hob, hsv⟩ := hans
  obtain ⟨Ab, cb, rfl⟩ := own_form hob
  obtain ⟨As, cs, rfl⟩ := own_form hsv
  exact ⟨⟨Ab, cb, As, cs, rfl, hob, hsv⟩, hB⟩
theorem ownsRow_form {w : World} {base size n : Nat} {e : TypeId} {v : Value} {xs : List Value} (h : w.ownsRow base e size v n xs) (hn : 0 < n) : ∃ g cap, v = .slice (some ⟨g, 0, none⟩) n cap := by
  rcases h.2 with ⟨_, h0⟩ | ⟨g, cap, _, rfl, _⟩
  · omega
  · exact ⟨g, cap, rfl⟩
theorem own_max {w : World} {base size n : Nat} {e : TypeId} {v : Value} {xs : List Value} (h : w.ownsRow base e size v n xs) : n ≤ 9223372036854775807 := by
  rcases h.2 with ⟨_, h0⟩ | ⟨g, cap, _, rfl, _, _, h1, h2, _⟩
  · omega
  · unfold maxLen at h2; omega
theorem own_put {w : World} {B g n cap : Nat} {M : List Int} (h : w.ownsRow B 5 1 (.slice (some ⟨g, 0, none⟩) n cap) n (bv M)) (k : Nat) (x : Int) :
    (w.setCell ⟨g, k, none⟩ (.int .u8 x)).ownsRow B 5 1 (.slice (some ⟨g, 0, none⟩) n cap) n (bv (M.set k x)) := by
  have := h.stored k (.int .u8 x)
  have e : (bv M).set k (.int .u8 x) = bv (M.set k x) := by simp [bv, List.map_set]
  rw [e] at this
  exact this.1
theorem intact_at (m : Int) (v : Value) (g : Nat) (L : List Int) (n : Nat) (w : World) (hR : BS w v L) (hln : L.length = n) (hn : n ≤ 300)
    (hG : Blk w g 5 (bv (rl L m (L.length + 80))).toArray) :
    Calls Try.prog 16 #[.slice (some ⟨g, 0, none⟩) (n + 80) (n + 80), v, .int .u8 m] w fun e w' => e = .returned (.bool true) ∧ Below w.heap.size w w' := by
  subst hln
  exact intact_any m v g L w hR (by omega) hG
theorem bs_full {w : World} {g : Nat} {L : List Int} (h : Blk w g 5 (bv (rl L 6 (L.length + 80))).toArray) (hn : L.length ≤ 300) : BS w (.slice (some ⟨g, 0, none⟩) (L.length + 80) (L.length + 80)) (rl L 6 (L.length + 80)) := by
  refine ⟨_, _, by rw [rl_len], by rw [rl_len]; exact Nat.le_refl _, by unfold maxLen; omega, fun _ => ⟨g, 0, rfl, h.lt, fun i j hi hj => ?_⟩⟩
  obtain rfl : j = 0 := by omega
  rw [show (0 + (i * 1 + 0)) = i by omega, h.cell, List.getElem?_toArray]
  exact bv_get _ i hi
theorem rl_take (L : List Int) (k : Nat) : (rl L 6 k).take L.length = L := by
  apply List.ext_getElem?
  intro q
  by_cases hq : q < L.length
  · rw [List.getElem?_take_of_lt hq]
    simp [rl, hq, show q < L.length + 80 by omega]
  · rw [List.getElem?_eq_none (by simp; omega), List.getElem?_eq_none (by omega)]
set_option maxHeartbeats 8000000 in
set_option maxRecDepth 100000 in
theorem tells_any (ty fl st : Int) (A : Option Addr) (len cap : Nat) (L : List Int) (w : World) (hR : BS w (.slice A len cap) L) (hb : Byt L) :
    Calls Try.prog 4 #[.agg (fC ty fl st (.slice A len cap))] w fun e w' => e = .returned (.bool true) ∧ Below w.heap.size w w' := by
  have HR := Lib.hid hR
  obtain ⟨L2, hL2⟩ : ∃ L2, L.take 300 = L2 := ⟨_, rfl⟩
  have hY2 : Byt L2 := fun x hx => hb x (by rw [← hL2] at hx; exact List.mem_of_mem_take hx)
  have hn2 : L2.length ≤ 300 := by rw [← hL2]; simp; omega
  obtain ⟨n2, hn2e⟩ : ∃ n2, L2.length = n2 := ⟨_, rfl⟩
  have HL2 := Lib.hid hL2
  have HY2 := Lib.hid hY2
  have HN2 := Lib.hid hn2e
  rw [hn2e] at hn2
  clear hL2 hY2 hn2e hR hb
  obtain ⟨⟨⟨pty, pst, pe, pf, pk, pbody, pco, pla, pmo, pcs, pn, pZ⟩, b1, b2, b3⟩, hof⟩ : ∃ r, ofF ty fl st L2 = r := ⟨_, rfl⟩
  have HOF := Lib.hid hof
  clear hof
  go_enter Try.func4, Try.ntmps4
  go_upto_region 1 with fail
  refine wp_forget (fun W => Below w.heap.size w W ∧ Hid (Blk W w.heap.size 32 (fC ty fl st (.slice A len cap)))) ⟨by go_grown, Lib.hid (Blk.new _ _ _)⟩ ?_
  rintro W ⟨hA, HF⟩
  have hAs := hA.size
  have hl0 := HF.out.lt
  have f0 : W.cell? ⟨w.heap.size, 0, none⟩ = some (.int .i64 ty) := HF.out.cell 0
  have f1 : W.cell? ⟨w.heap.size, 1, none⟩ = some (.int .i64 fl) := HF.out.cell 1
  have f2 : W.cell? ⟨w.heap.size, 2, none⟩ = some (.int .i64 st) := HF.out.cell 2
  have f3 : W.cell? ⟨w.heap.size, 3, none⟩ = some (.slice A len cap) := HF.out.cell 3
  go_wp2_with fail
  refine (light_at ty fl st _ L w _ HR.out).mono ?_
  rintro e w1 ⟨⟨v2, rfl, hv2⟩, hB1⟩
  rw [HL2.out] at hv2
  obtain ⟨A2, c2, rfl, -⟩ := id hv2
  rw [HN2.out] at hv2 ⊢
  have HV := Lib.hid hv2
  clear hv2
  have hs1 := hB1.size
  have HF1 := Lib.hid (HF.out.below hB1 hl0)
  have hA1 : Below w.heap.size w w1 := hA.trans (hB1.mono hAs)
  go_wp2_with (refine wpList_store_row rfl 32 (.tmp 1) (.tmp 11) rfl w.heap.size rfl (fC ty fl st (.slice A2 n2 c2)) rfl 32 _ HF1.out rfl (by kernel_rfl) (by simp [Value.oneCell']) ?_; intro W2 hW2 gW2 sW2; have HF2 := Lib.hid hW2; have u0 : W2.cell? ⟨w.heap.size, 0, none⟩ = some (.int .i64 ty) := hW2.cell 0; have u1 : W2.cell? ⟨w.heap.size, 1, none⟩ = some (.int .i64 fl) := hW2.cell 1; have u2 : W2.cell? ⟨w.heap.size, 2, none⟩ = some (.int .i64 st) := hW2.cell 2; have u3 : W2.cell? ⟨w.heap.size, 3, none⟩ = some (.slice A2 n2 c2) := hW2.cell 3; have hA2 : Below w.heap.size w W2 := hA1.grown gW2 (by omega) (fun q hq => by cases hq; omega); have HV2 := Lib.hid (HV.out.below hA2 (Nat.le_refl _)))
  have hs2 := hA2.size
  have hl2 := HF2.out.lt
  clear gW2 sW2
  go_upto_region 3 with (go_at_call 14; refine (roomy_any 6 _ L2 _ HV2.out (by rw [HN2.out]; omega)).mono ?_; rintro e w3 ⟨gr, hgr, rfl, hG, hB3⟩; have hs3 := hB3.size; have HF3 := Lib.hid (HF2.out.below hB3 hl2); have hA3 : Below w.heap.size w w3 := hA2.trans (hB3.mono hs2))
  have HGr := Lib.hid hG
  have hl8 : w.heap.size < w3.heap.size := HF3.out.lt
  have hbf := bs_full hG (by rw [HN2.out]; exact hn2)
  obtain ⟨A3, n3, c3, hrun3, hv3⟩ := run_to hbf (n2 : Int) (by omega) (by rw [rl_len, HN2.out]; omega)
  have hv3' : BS w3 (.slice A3 n3 c3) L2 := by have h := hv3; rwa [Int.toNat_natCast, ← HN2.out, rl_take] at h
  have HV3 := Lib.hid hv3'
  rw [HN2.out] at hrun3 ⊢
  clear hv3 hv3' hbf hG
  have h0 : w3.cell? ⟨w.heap.size, 0, none⟩ = some (.int .i64 ty) := HF3.out.cell 0
  have h1 : w3.cell? ⟨w.heap.size, 1, none⟩ = some (.int .i64 fl) := HF3.out.cell 1
  have h2 : w3.cell? ⟨w.heap.size, 2, none⟩ = some (.int .i64 st) := HF3.out.cell 2
  have h3 : w3.cell? ⟨w.heap.size, 3, none⟩ = some (.slice A2 n2 c2) := HF3.out.cell 3
  go_upto_region 5 with fail
  refine wp_forget (fun X => Below w.heap.size w X ∧ w3.heap.size < X.heap.size ∧ Hid (Blk X w.heap.size 32 (fC ty fl st (.slice A2 n2 c2))) ∧ Hid (Blk X w3.heap.size 32 (fC ty fl st (.slice A3 n3 c3))) ∧ Hid (Blk X gr 5 (bv (rl L2 6 (L2.length + 80))).toArray) ∧ Hid (BS X (.slice A3 n3 c3) L2)) ⟨by go_grown, by go_size, Lib.hid (HF3.out.alloc _), Lib.hid (Blk.new _ _ _), Lib.hid (HGr.out.alloc _), Lib.hid (HV3.out.below (by go_grown) (Nat.le_refl _))⟩ ?_
  rintro W4 ⟨hA4, hl9, HF4, HC4, HG4, HV4⟩
  have hgrl : gr < W4.heap.size := HG4.out.lt
  clear HF3 HGr HV3 hA3 hB3 hs3 h0 h1 h2 h3 HF2 hA2 hs2 hl2 u0 u1 u2 u3 HV2 f0 f1 f2 f3 HF hA hAs hl0 hB1 hs1 HF1 hA1
  generalize w3.heap.size = gc at *
  have hs4 := hA4.size
  have h0 : W4.cell? ⟨w.heap.size, 0, none⟩ = some (.int .i64 ty) := HF4.out.cell 0
  have h1 : W4.cell? ⟨w.heap.size, 1, none⟩ = some (.int .i64 fl) := HF4.out.cell 1
  have h2 : W4.cell? ⟨w.heap.size, 2, none⟩ = some (.int .i64 st) := HF4.out.cell 2
  have h3 : W4.cell? ⟨w.heap.size, 3, none⟩ = some (.slice A2 n2 c2) := HF4.out.cell 3
  have k0 : W4.cell? ⟨gc, 0, none⟩ = some (.int .i64 ty) := HC4.out.cell 0
  have k1 : W4.cell? ⟨gc, 1, none⟩ = some (.int .i64 fl) := HC4.out.cell 1
  have k2 : W4.cell? ⟨gc, 2, none⟩ = some (.int .i64 st) := HC4.out.cell 2
  have k3 : W4.cell? ⟨gc, 3, none⟩ = some (.slice A3 n3 c3) := HC4.out.cell 3
  go_upto_region 6 with (go_at_call 10; refine (of_is ty fl st _ L2 _ HV4.out HY2.out _ _ _ _ _ _ _ _ _ _ _ _ _ _ _ HOF).mono ?_; rintro e w5 ⟨⟨Ab, cb, As, cs, rfl, hob, hsv⟩, hB5⟩; have hs5 := hB5.size; have hF5 := HF4.out.below hB5 (by omega); have hG5 := HG4.out.below hB5 hgrl; have hA5 : Below w.heap.size w w5 := hA4.trans (hB5.mono hs4))
  refine wp_forget (fun X => Below w.heap.size w X ∧ w5.heap.size + 1 < X.heap.size ∧ Hid (Blk X w.heap.size 32 (fC ty fl st (.slice A2 n2 c2))) ∧ Hid (Blk X gr 5 (bv (rl L2 6 (L2.length + 80))).toArray) ∧ Hid (Blk X w5.heap.size 26 #[.int .i64 pty, .int .i64 pst, .bool pe, .bool pf, .bool pk, .slice Ab pbody.length cb, .int .i64 pco, .int .i64 pla, .int .i64 pmo, .int .i64 pcs, .slice As pn cs]) ∧ Hid (Blk X (w5.heap.size + 1) 28 #[.int .i64 b1, .int .i64 b2, .int .i64 b3]) ∧ Hid (X.ownsRow W4.heap.size 5 1 (.slice Ab pbody.length cb) pbody.length (bv pbody)) ∧ Hid (X.ownsRow W4.heap.size 54 2 (.slice As pn cs) pn (rowsOf (SV pZ) 2 pn))) ⟨by go_grown, by go_size, Lib.hid ((hF5.alloc _).alloc _), Lib.hid ((hG5.alloc _).alloc _), Lib.hid ((Blk.new _ _ _).alloc _), Lib.hid (Blk.new_at (by go_size)), Lib.hid ((hob.alloc _).alloc _), Lib.hid ((hsv.alloc _).alloc _)⟩ ?_
  rintro W6 ⟨hA6, hl6, HF6, HG6, HP6, HX6, HO6, HS6⟩
  have hgo : ∀ q, Value.ownBlock (.slice Ab pbody.length cb) = some q → W4.heap.size ≤ q ∧ q < w5.heap.size := hob.lt
  have HGO := Lib.hid hgo
  have hs6' : w.heap.size < W4.heap.size := HF4.out.lt
  have hgr4 : gr < W4.heap.size := hgrl
  clear HF4 HG4 HC4 HV4 hA4 h0 h1 h2 h3 k0 k1 k2 k3 hl9 hF5 hG5 hA5 hob hsv hB5 hgo
  generalize hgp : w5.heap.size = gp at *
  clear hgp
  generalize hbas : W4.heap.size = bas at *
  clear hbas
  have hs6 := hA6.size
  have HV6 := Lib.hid (HV.out.below hA6 (Nat.le_refl _))
  have h0 : W6.cell? ⟨w.heap.size, 0, none⟩ = some (.int .i64 ty) := HF6.out.cell 0
  have h1 : W6.cell? ⟨w.heap.size, 1, none⟩ = some (.int .i64 fl) := HF6.out.cell 1
  have h2 : W6.cell? ⟨w.heap.size, 2, none⟩ = some (.int .i64 st) := HF6.out.cell 2
  have h3 : W6.cell? ⟨w.heap.size, 3, none⟩ = some (.slice A2 n2 c2) := HF6.out.cell 3
  go_upto_region 7 with (go_at_call 15; refine (rs_is ty fl st _ L2 _ HV6.out HY2.out _ _ _ _ _ _ _ _ _ _ _ _ _ _ _ HOF).mono ?_; rintro e w7 ⟨⟨Ab', cb', As', cs', rfl, hob', hsv'⟩, hB7⟩; have hs7 := hB7.size; have hF7 := HF6.out.below hB7 (by omega); have hG7 := HG6.out.below hB7 (by omega); have hP7 := HP6.out.below hB7 (by omega); have hX7 := HX6.out.below hB7 hl6; have hO7 := own_below HO6.out hB7; have hS7 := own_below HS6.out hB7; have hA7 : Below w.heap.size w w7 := hA6.trans (hB7.mono hs6))
  refine wp_forget (fun X => Below w.heap.size w X ∧ w7.heap.size + 1 < X.heap.size ∧ Hid (Blk X w.heap.size 32 (fC ty fl st (.slice A2 n2 c2))) ∧ Hid (Blk X gr 5 (bv (rl L2 6 (L2.length + 80))).toArray) ∧ Hid (Blk X gp 26 #[.int .i64 pty, .int .i64 pst, .bool pe, .bool pf, .bool pk, .slice Ab pbody.length cb, .int .i64 pco, .int .i64 pla, .int .i64 pmo, .int .i64 pcs, .slice As pn cs]) ∧ Hid (Blk X (gp + 1) 28 #[.int .i64 b1, .int .i64 b2, .int .i64 b3]) ∧ Hid (X.ownsRow bas 5 1 (.slice Ab pbody.length cb) pbody.length (bv pbody)) ∧ Hid (X.ownsRow bas 54 2 (.slice As pn cs) pn (rowsOf (SV pZ) 2 pn)) ∧ Hid (Blk X w7.heap.size 26 #[.int .i64 pty, .int .i64 pst, .bool pe, .bool pf, .bool pk, .slice Ab' pbody.length cb', .int .i64 pco, .int .i64 pla, .int .i64 pmo, .int .i64 pcs, .slice As' pn cs']) ∧ Hid (Blk X (w7.heap.size + 1) 28 #[.int .i64 b1, .int .i64 b2, .int .i64 b3]) ∧ Hid (BS X (.slice Ab' pbody.length cb') pbody) ∧ Hid (Rowy X (.slice As' pn cs') pn 2 (SV pZ))) ⟨by go_grown, by go_size, Lib.hid ((hF7.alloc _).alloc _), Lib.hid ((hG7.alloc _).alloc _), Lib.hid ((hP7.alloc _).alloc _), Lib.hid ((hX7.alloc _).alloc _), Lib.hid ((hO7.alloc _).alloc _), Lib.hid ((hS7.alloc _).alloc _), Lib.hid ((Blk.new _ _ _).alloc _), Lib.hid (Blk.new_at (by go_size)), Lib.hid ((bs_own hob' rfl).below (by go_grown) (Nat.le_refl _)), Lib.hid ((rowy_own hsv').below (by go_grown) (Nat.le_refl _))⟩ ?_
  rintro W8 ⟨hA8, hl8', HF8, HG8, HP8, HX8, HO8, HS8, HQ8, HY8, HOq, HSq⟩
  clear HF6 HG6 HP6 HX6 HO6 HS6 HV6 hA6 hF7 hG7 hP7 hX7 hO7 hS7 hA7 hob' hsv' hB7 h0 h1 h2 h3
  have hgq7 : gp + 1 < w7.heap.size := by omega
  generalize hgq : w7.heap.size = gq at *
  clear hgq
  have hs8 := hA8.size
  have p0 : W8.cell? ⟨gp, 0, none⟩ = some (.int .i64 pty) := HP8.out.cell 0
  have p1 : W8.cell? ⟨gp, 1, none⟩ = some (.int .i64 pst) := HP8.out.cell 1
  have p2 : W8.cell? ⟨gp, 2, none⟩ = some (.bool pe) := HP8.out.cell 2
  have p3 : W8.cell? ⟨gp, 3, none⟩ = some (.bool pf) := HP8.out.cell 3
  have p4 : W8.cell? ⟨gp, 4, none⟩ = some (.bool pk) := HP8.out.cell 4
  have p5 : W8.cell? ⟨gp, 5, none⟩ = some (.slice Ab pbody.length cb) := HP8.out.cell 5
  have p6 : W8.cell? ⟨gp, 6, none⟩ = some (.int .i64 pco) := HP8.out.cell 6
  have p7 : W8.cell? ⟨gp, 7, none⟩ = some (.int .i64 pla) := HP8.out.cell 7
  have p8 : W8.cell? ⟨gp, 8, none⟩ = some (.int .i64 pmo) := HP8.out.cell 8
  have p9 : W8.cell? ⟨gp, 9, none⟩ = some (.int .i64 pcs) := HP8.out.cell 9
  have p10 : W8.cell? ⟨gp, 10, none⟩ = some (.slice As pn cs) := HP8.out.cell 10
  have x0 : W8.cell? ⟨(gp + 1), 0, none⟩ = some (.int .i64 b1) := HX8.out.cell 0
  have x1 : W8.cell? ⟨(gp + 1), 1, none⟩ = some (.int .i64 b2) := HX8.out.cell 1
  have x2 : W8.cell? ⟨(gp + 1), 2, none⟩ = some (.int .i64 b3) := HX8.out.cell 2
  have q0 : W8.cell? ⟨gq, 0, none⟩ = some (.int .i64 pty) := HQ8.out.cell 0
  have q1 : W8.cell? ⟨gq, 1, none⟩ = some (.int .i64 pst) := HQ8.out.cell 1
  have q2 : W8.cell? ⟨gq, 2, none⟩ = some (.bool pe) := HQ8.out.cell 2
  have q3 : W8.cell? ⟨gq, 3, none⟩ = some (.bool pf) := HQ8.out.cell 3
  have q4 : W8.cell? ⟨gq, 4, none⟩ = some (.bool pk) := HQ8.out.cell 4
  have q5 : W8.cell? ⟨gq, 5, none⟩ = some (.slice Ab' pbody.length cb') := HQ8.out.cell 5
  have q6 : W8.cell? ⟨gq, 6, none⟩ = some (.int .i64 pco) := HQ8.out.cell 6
  have q7 : W8.cell? ⟨gq, 7, none⟩ = some (.int .i64 pla) := HQ8.out.cell 7
  have q8 : W8.cell? ⟨gq, 8, none⟩ = some (.int .i64 pmo) := HQ8.out.cell 8
  have q9 : W8.cell? ⟨gq, 9, none⟩ = some (.int .i64 pcs) := HQ8.out.cell 9
  have q10 : W8.cell? ⟨gq, 10, none⟩ = some (.slice As' pn cs') := HQ8.out.cell 10
  have y0 : W8.cell? ⟨(gq + 1), 0, none⟩ = some (.int .i64 b1) := HY8.out.cell 0
  have y1 : W8.cell? ⟨(gq + 1), 1, none⟩ = some (.int .i64 b2) := HY8.out.cell 1
  have y2 : W8.cell? ⟨(gq + 1), 2, none⟩ = some (.int .i64 b3) := HY8.out.cell 2
  go_upto_region 8 with (go_at_call 12; refine (parts_any _ _ _ _ _ _ _ _ _ _ _ _ _ pbody pn pZ _ (bs_own HO8.out rfl) HOq.out (rowy_own HS8.out) HSq.out).mono ?_; rintro e w9 ⟨rfl, hB9⟩; have hs9 := hB9.size; have HF9 := Lib.hid (HF8.out.below hB9 (by omega)); have HG9 := Lib.hid (HG8.out.below hB9 (by omega)); have HP9 := Lib.hid (HP8.out.below hB9 (by omega)); have HO9 := Lib.hid (own_below HO8.out hB9); have hA9 : Below w.heap.size w w9 := hA8.trans (hB9.mono hs8))
  have hA9s := hA9.size
  clear HF8 HG8 HX8 HP8 HS8 HQ8 HY8 HOq HSq HO8 hA8 p0 p1 p2 p3 p4 p5 p6 p7 p8 p9 p10 x0 x1 x2 q0 q1 q2 q3 q4 q5 q6 q7 q8 q9 q10 y0 y1 y2
  have hgo2 : ∀ q, Value.ownBlock (.slice Ab pbody.length cb) = some q → q < gp := fun q hq => (HGO.out q hq).2
  have HGQ := Lib.hid hgo2
  clear hgo2
  obtain ⟨nb, hnb⟩ : ∃ nb, pbody.length = nb := ⟨_, rfl⟩
  have HNB := Lib.hid hnb
  rw [hnb] at HO9 HP9 HGQ HGO ⊢
  clear hnb
  have hbw : w.heap.size < bas := hs6'
  go_loopw [9] (fun i wr => ∃ (k : Nat) (M : List Int), k ≤ nb ∧ i = .int .i64 k ∧ wr.ownsRow bas 5 1 (.slice Ab nb cb) nb (bv M) ∧ M.length = nb ∧ Blk wr gp 26 #[.int .i64 pty, .int .i64 pst, .bool pe, .bool pf, .bool pk, .slice Ab nb cb, .int .i64 pco, .int .i64 pla, .int .i64 pmo, .int .i64 pcs, .slice As pn cs] ∧ Blk wr w.heap.size 32 (fC ty fl st (.slice A2 n2 c2)) ∧ Blk wr gr 5 (bv (rl L2 6 (L2.length + 80))).toArray ∧ Below w.heap.size w wr) (fun i _ => nb - (intOf i).toNat)
  case atStart => exact ⟨0, pbody, Nat.zero_le _, rfl, HO9.out, HNB.out, HP9.out, HF9.out, HG9.out, hA9⟩
  case round =>
    obtain ⟨k, M, hk, rfl, hO, hM, hP, hF, hG, hB⟩ := hrel
    have HO := Lib.hid hO
    have HP := Lib.hid hP
    have HF := Lib.hid hF
    have HG := Lib.hid hG
    have HM := Lib.hid hM
    have p5 : wr.cell? ⟨gp, 5, none⟩ = some (.slice Ab nb cb) := hP.cell 5
    have f3 : wr.cell? ⟨w.heap.size, 3, none⟩ = some (.slice A2 n2 c2) := hF.cell 3
    clear hO hP hF hG hM
    by_cases hlt : k < nb
    · obtain ⟨g, cap, hv⟩ := ownsRow_form HO.out (by omega)
      cases hv
      have hgl := HO.out.lt g rfl
      have hgp2 : g < gp := HGQ.out g rfl
      obtain ⟨u0, e0⟩ : ∃ u, wr.cell? ⟨g, k, none⟩ = some (.int .u8 u) := ⟨_, (HO.out.cellAt k (by omega)).trans (bv_get M k (by rw [HM.out]; exact hlt))⟩
      have z0 : wr.frozen? ⟨g, k, none⟩ = false := HO.out.frozenAt k
      have hnbm := own_max HO.out
      have hki : (k : Int) < (nb : Int) := by omega
      have hk0 : 0 ≤ (k : Int) := by omega
      have HK1 : Hid (k + 1 ≤ nb) := hlt
      have HM2 : Hid (nb - (k + 1) < nb - k) := by show nb - (k + 1) < nb - k; omega
      have HGX : Hid (gp ≠ g ∧ w.heap.size ≠ g ∧ gr ≠ g ∧ w.heap.size ≤ g) := by show gp ≠ g ∧ w.heap.size ≠ g ∧ gr ≠ g ∧ w.heap.size ≤ g; omega
      go_wp2_with fail
      go_roundw
      case rel =>
        refine ⟨k + 1, M.set k _, HK1.out, by go_num, own_put HO.out k _, by rw [List.length_set]; exact HM.out, HP.out.far HGX.out.1 _, HF.out.far HGX.out.2.1 _, HG.out.far HGX.out.2.2.1 _, hB.setCell HGX.out.2.2.2 _⟩
      case measure => simp [intOf]; omega
    · obtain rfl : k = nb := by omega
      have hbsz := hB.size
      go_wp2_with (first
        | (go_at_call 16; refine (intact_at 6 _ gr L2 n2 wr (HV.out.below hB (Nat.le_refl _)) HN2.out hn2 HG.out).mono ?_; rintro e wa ⟨rfl, hBa⟩)
        | (go_at_call 3; refine (runs_any _).mono ?_; rintro e wb ⟨rfl, hBb⟩))
      go_ret
      exact ⟨rfl, (hB.trans (hBa.mono hbsz)).trans (hBb.mono (by have := hBa.size; omega))⟩
end Go.Proofs.Ytolpfbdklcjlkaa
