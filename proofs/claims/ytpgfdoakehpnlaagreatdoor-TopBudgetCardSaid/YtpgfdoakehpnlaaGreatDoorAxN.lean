import Derived.Test.YtpgfdoakehpnlaaGreatDoorAxM
import Derived.Lib.Overlaps
import Derived.Lib.AppendZerosOnto
import Derived.Lib.AppendZeros
import Derived.Lib.SliceRun
import Derived.Lib.Walk
import Derived.Lib.JoinLaws
import Derived.Laws.Externs
import Derived.Laws.IdiomCopy
import Derived.Laws.NewBlocks
import Derived.Shelf.RegionOpenPlain
import Derived.Shelf.Spec.SlicesInsert
import Derived.Deep.AppendSrc
set_option linter.unusedVariables false
set_option linter.unusedSimpArgs false
namespace Go.AM
open Go Go.Proofs Go.ChangeShapes Go.WideShapes Go.ChangeAt Go.RowKit
set_option linter.unusedVariables false
set_option linter.unusedSimpArgs false
/-! # slices.Insert at the head, of one element -/
theorem run_copy_at {P : Program} (w : World) (dT sT ty elem : TypeId) (k g o dLen dCap : Nat) (a : Addr) (sLen sCap : Nat) (cur : Array Value) (t : TypeId) (cs : List Value)
    (hu : P.underlying dT = some (.slice elem)) (hs : (P.info? elem).map (·.size) = some k)
    (hg : w.heap[g]? = some (.cells cur t (0, 0))) (hn : cs.length = Nat.min sLen dLen * k)
    (hsrc : ∀ j v, cs[j]? = some v → w.cell? (a.add j) = some v) (hfit : o + cs.length ≤ cur.size) (h1 : ∀ v ∈ cs, v.oneCell' = true) :
    (Builtin.copy_ #[dT, sT] ty #[.slice (some ⟨g, o, none⟩) dLen dCap, .slice (some a) sLen sCap]).run P w =
      .ok (goInt (Nat.min sLen dLen)) (w.setRow g (cur.toList.take o ++ cs ++ cur.toList.drop (o + cs.length)).toArray) := by
  cases hq : P.info? elem with
  | none => simp [hq] at hs
  | some i =>
    have hi : i.size = k := by simpa [hq] using hs
    have hl := run_loadCells_list (P := P) w a cs hsrc
    have hst := run_storeCells_at P g o t cs 0 cur w hg (by simpa using hfit) h1
    simp only [Nat.add_zero] at hst
    simp [Builtin.copy_, run_underlying hu, Builtin.lenOf, Builtin.firstCells, sizeOf, typeInfo, hq, hi, ← hn, hl, hst]
theorem cell_list {w : World} {g : Nat} {C : Array Value} {e : TypeId} {l t : List Value} (h : w.heap[g]? = some (.cells C e (0, 0))) (hC : C.toList = l ++ t) (j : Nat) (v : Value) (hj : l[j]? = some v) : w.cell? ⟨g, j, none⟩ = some v := by
  rw [cell_of_row w g j C e (0, 0) h]
  have : C.toList[j]? = some v := by rw [hC, List.getElem?_append_left (List.getElem?_eq_some_iff.1 hj).1]; exact hj
  simpa using this
set_option maxHeartbeats 4000000 in
set_option maxRecDepth 100000 in
/-- There is room: in place. -/
theorem ins211_room (r2 r1 n c c1 : Nat) (C1 C2 : Array Value) (e1 e2 : TypeId) (vs cs t1 t2 : List Value) (w : World)
    (h1 : w.heap[r1]? = some (.cells C1 e1 (0, 0))) (h2 : w.heap[r2]? = some (.cells C2 e2 (0, 0))) (hne : r1 ≠ r2) (hv : vs.length = 2) (hcs : cs.length = n * 2)
    (hC1 : C1.toList = vs ++ t1) (hC2 : C2.toList = cs ++ t2) (o1 : ∀ v ∈ vs, v.oneCell' = true) (o2 : ∀ v ∈ cs, v.oneCell' = true) (hn : 0 < n) (hc : n + 1 ≤ c) (hcc : c * 2 ≤ C2.size) (hbig : n ≤ 65536) (hc1 : 1 ≤ c1) :
    Calls Tryz.prog 211 #[.slice (some ⟨r2, 0, none⟩) n c, .int .i64 0, .slice (some ⟨r1, 0, none⟩) 1 c1] w fun e w' =>
      e = .returned (.slice (some ⟨r2, 0, none⟩) (n + 1) c) ∧ w' = ((w.drew.setRow r2 (C2.toList.take 2 ++ cs ++ C2.toList.drop (2 + cs.length)).toArray)).setRow r2 (vs ++ (C2.toList.take 2 ++ cs ++ C2.toList.drop (2 + cs.length)).drop vs.length).toArray := by
  have hsz : (Tryz.prog.info? 50).map (·.size) = some 2 := by kernel_rfl
  have hsz0 : ∀ w, (Go.sizeOf 50).run Tryz.prog w = .ok 2 w := fun w => by
    cases hq : Tryz.prog.info? 50 with
    | none => rw [hq] at hsz; cases hsz
    | some i => rw [hq] at hsz; have : i.size = 2 := by simpa using hsz
                simp [Go.sizeOf, typeInfo, hq, this]
  have hov : ∀ lb cb, (callFunc 258 #[.slice (some ⟨r1, 0, none⟩) 1 c1, .slice (some ⟨r2, 2, none⟩) lb cb]).run Tryz.prog w = .ok (.value (.bool false)) w := fun lb cb => by
    have hs1 : w.shape? r1 = some (e1, C1.size) := by unfold World.shape?; rw [h1]
    have hs2 : w.shape? r2 = some (e2, C2.size) := by unfold World.shape?; rw [h2]
    rw [run_callFunc_extern Tryz.func258 (by kernel_rfl) (by kernel_rfl) (by kernel_rfl) (e := Extern.SlicesOverlaps.overlaps #[24, 24] #[4]) (by kernel_rfl),
      Lib.run_overlaps_apart w 24 4 50 Tryz.underlying24 2 hsz0 ⟨r1, 0, none⟩ ⟨r2, 2, none⟩ 1 c1 lb cb hne e1 e2 C1.size C2.size hs1 hs2 (by omega) (frozen_of_row w r1 0 C1 e1 h1) (frozen_of_row w r1 _ C1 e1 h1)]
    rfl
  have hz1 : ¬ ((0 : Int) = (n : Int)) := by omega
  have hw1 : IntKind.i64.wrap ((n : Int) + 1) = (n : Int) + 1 := by rw [IntKind.wrap_i64]; omega
  have hlen2 : C2.toList.length = C2.size := by simp
  have hg0 : w.drew.heap[r2]? = some (.cells C2 e2 (0, 0)) := h2
  have hcp1 : ∀ ty dc sc, (Builtin.copy_ #[24, 24] ty #[.slice (some ⟨r2, 2, none⟩) n dc, .slice (some ⟨r2, 0, none⟩) (n + 1) sc]).run Tryz.prog w.drew = .ok (goInt n) (w.drew.setRow r2 (C2.toList.take 2 ++ cs ++ C2.toList.drop (2 + cs.length)).toArray) := fun ty dc sc => by
    have := run_copy_at (P := Tryz.prog) w.drew 24 24 ty 50 2 r2 2 n dc ⟨r2, 0, none⟩ (n + 1) sc C2 e2 cs Tryz.underlying24 hsz hg0 (by rw [hcs]; simp [Nat.min_def]) (fun j v hj => by rw [Addr.add_lit, Nat.zero_add]; exact cell_list h2 hC2 j v hj) (by omega) o2
    rw [this]
    simp [Nat.min_def]
  have hl1 : (C2.toList.take 2 ++ cs ++ C2.toList.drop (2 + cs.length)).length = C2.size := by simp; omega
  generalize hR1 : C2.toList.take 2 ++ cs ++ C2.toList.drop (2 + cs.length) = R1 at hcp1 hl1 ⊢
  obtain ⟨W1, hW1⟩ : ∃ W1, W1 = w.drew.setRow r2 R1.toArray := ⟨_, rfl⟩
  have hg1 : W1.heap[r2]? = some (.cells R1.toArray e2 (0, 0)) := by rw [hW1]; exact setRow_heap _ _ _ _ _ _ hg0
  have hg2 : W1.heap[r1]? = some (.cells C1 e1 (0, 0)) := by rw [hW1, setRow_other _ _ _ _ hne]; exact h1
  rw [← hW1] at hcp1 ⊢
  have hcp2 : ∀ ty dc, (Builtin.copy_ #[24, 24] ty #[.slice (some ⟨r2, 0, none⟩) (n + 1) dc, .slice (some ⟨r1, 0, none⟩) 1 c1]).run Tryz.prog W1 = .ok (goInt 1) (W1.setRow r2 (vs ++ R1.drop vs.length).toArray) := fun ty dc => by
    have := run_copy_at (P := Tryz.prog) W1 24 24 ty 50 2 r2 0 (n + 1) dc ⟨r1, 0, none⟩ 1 c1 R1.toArray e2 vs Tryz.underlying24 hsz hg1 (by rw [hv]; simp [Nat.min_def]) (fun j v hj => by rw [Addr.add_lit, Nat.zero_add]; exact cell_list hg2 hC1 j v hj) (by simp; omega) o1
    rw [this]
    simp [Nat.min_def]
  subst hW1
  have hm := hmf
  have mixed : Tryz.prog.follows .mixedOrders = true := by decide
  have hb1 : ¬ (c = 1) := by omega
  have hw2 : IntKind.i64.wrap 1 = 1 := by rw [IntKind.wrap_i64]; rfl
  have hb3 : (1 : Int) ≤ (n : Int) + 1 := by omega
  have hb4 : (0 : Int) ≤ (n : Int) + 1 := by omega
  clear hR1
  go_enter Tryz.func211, Tryz.ntmps211
  go_wp2_with (simp only [hov])
  go_region_law_o (refine step_copy_runI rfl _ _ 24 24 rfl _ _ (by simp [Act.eval, Act.put]) (by simp [Act.eval, Act.put]) (hcp1 _ _ _) ?_)
  go_wp2_with (refine wpList_copy_runI _ rfl _ _ 24 24 rfl _ _ rfl rfl (hcp2 _ _) ?_)
  go_ret
  exact ⟨rfl, by rw [hv]⟩
set_option maxHeartbeats 4000000 in
set_option maxRecDepth 100000 in
/-- There is none: a new row. -/
theorem ins211_grow (r2 r1 n c c1 : Nat) (C1 C2 : Array Value) (e1 e2 : TypeId) (vs cs t1 t2 : List Value) (w : World)
    (h1 : w.heap[r1]? = some (.cells C1 e1 (0, 0))) (h2 : w.heap[r2]? = some (.cells C2 e2 (0, 0))) (hv : vs.length = 2) (hcs : cs.length = n * 2)
    (hC1 : C1.toList = vs ++ t1) (hC2 : C2.toList = cs ++ t2) (o1 : ∀ v ∈ vs, v.oneCell' = true) (o2 : ∀ v ∈ cs, v.oneCell' = true) (hn : 0 < n) (hnc : n ≤ c) (hc : c < n + 1) (hbig : n ≤ 65536) (hc1 : 1 ≤ c1) :
    Calls Tryz.prog 211 #[.slice (some ⟨r2, 0, none⟩) n c, .int .i64 0, .slice (some ⟨r1, 0, none⟩) 1 c1] w fun e w' =>
      ∃ (G : Nat) (C' : Array Value) (t' : List Value), e = .returned (.slice (some ⟨w.heap.size, 0, none⟩) (n + 1) G) ∧ n + 1 ≤ G ∧ G * 2 ≤ C'.size ∧ C'.toList = vs ++ cs ++ t' ∧
        w'.heap[w.heap.size]? = some (.cells C' 50 (0, 0)) ∧ w.grownBy w' none := by
  have hsz : (Tryz.prog.info? 50).map (·.size) = some 2 := by kernel_rfl
  have hzz : ((Tryz.prog.info? 50).bind (·.zero)).map (·.cells.size) = some 2 := by kernel_rfl
  have hby : (Tryz.prog.info? 50).map (fun i => Nat.ble i.bytes 1024) = some true := by kernel_rfl
  obtain ⟨i0, hi0⟩ : ∃ i0, Tryz.prog.info? 50 = some i0 := by
    cases hq : Tryz.prog.info? 50 with
    | none => rw [hq] at hsz; cases hsz
    | some i => exact ⟨i, rfl⟩
  have hi1 : i0.size = 2 := by rw [hi0] at hsz; simpa using hsz
  have hb1 : i0.bytes ≤ 1024 := by rw [hi0] at hby; simpa using hby
  obtain ⟨z, hz0, hz1⟩ : ∃ z, i0.zero = some z ∧ z.cells.size = 2 := by
    rw [hi0] at hzz
    cases hq : i0.zero with
    | none => simp [hq] at hzz
    | some z => exact ⟨z, rfl, by simpa [hq] using hzz⟩
  have hr1 : r1 < w.heap.size := (Array.getElem?_eq_some_iff.1 h1).1
  have hr2 : r2 < w.heap.size := (Array.getElem?_eq_some_iff.1 h2).1
  have hold : (Builtin.firstCells i0.size 0 (.slice (some ⟨r2, 0, none⟩) 0 c)).run Tryz.prog w.drew = .ok ([] : List Value).toArray w.drew :=
    run_firstCells_some w.drew i0.size 0 ⟨r2, 0, none⟩ 0 c [] (by simp) (fun j v hj => by simp at hj)
  obtain ⟨G, hG⟩ : ∃ G, G = grownCap w (n + 1) c 50 := ⟨_, rfl⟩
  obtain ⟨ROW, hROW⟩ : ∃ ROW : Array Value, ROW = ([] : List Value).toArray ++ Builtin.zeroCells z.cells (n + 1) ++ Builtin.zeroCells z.cells (G - (n + 1)) := ⟨_, rfl⟩
  have hGn : n + 1 ≤ G := by rw [hG]; exact grownCap_ge w _ _ _
  have hRl : ROW.size = G * 2 := by rw [hROW]; simp [Builtin.zeroCells, hz1]; omega
  have hrz : ∀ ty, (Builtin.append_ #[24, 3] ty #[.slice (some ⟨r2, 0, none⟩) 0 c, .int .i64 ((n : Int) + 1)]).run Tryz.prog w = .ok (.slice (some ⟨w.heap.size, 0, none⟩) (n + 1) G) (w.drew.alloc (.cells ROW 50)) := fun ty => by
    have hfit : Builtin.nextslicecap (0 + (n + 1)) c * i0.bytes ≤ 281474976710656 := growslice_fits (by omega) (by
      have : (0 + (n + 1)) * i0.bytes ≤ 65537 * 1024 := Nat.mul_le_mul (by omega) hb1
      omega)
    have h48 : (n + 1) * i0.bytes ≤ 281474976710656 := by
      have : (n + 1) * i0.bytes ≤ 65537 * 1024 := Nat.mul_le_mul (by omega) hb1
      omega
    have h := Lib.run_append_grow_zeros w 24 3 ty 50 i0 z .i64 .i64 Tryz.underlying24 Tryz.underlying3 hi0 hz0 (some ⟨r2, 0, none⟩) 0 c [] hold (n + 1) (by omega) (by omega) (by omega) (by omega) h48 hfit
    rw [Nat.zero_add, ← hG, ← hROW] at h
    exact h
  have hG63 : G ≤ 9223372036854775807 := by
    have := grownCap_le_maxLen w (n + 1) c 50 (by unfold maxLen; omega)
    rw [← hG] at this
    unfold maxLen at this
    omega
  have hw1 : IntKind.i64.wrap ((n : Int) + 1) = (n : Int) + 1 := by rw [IntKind.wrap_i64]; omega
  have hw2 : IntKind.i64.wrap 1 = 1 := by rw [IntKind.wrap_i64]; rfl
  have hg0 : (w.drew.alloc (.cells ROW 50)).heap[w.heap.size]? = some (.cells ROW 50 (0, 0)) := heap_alloc_new w.drew _
  have hs1 : (w.drew.alloc (.cells ROW 50)).heap[r1]? = some (.cells C1 e1 (0, 0)) := (Below.heap_alloc w.drew _ r1 hr1).trans h1
  have hs2 : (w.drew.alloc (.cells ROW 50)).heap[r2]? = some (.cells C2 e2 (0, 0)) := (Below.heap_alloc w.drew _ r2 hr2).trans h2
  have hA : ∀ W : World, W.heap = (w.drew.alloc (.cells ROW 50)).heap → ∀ ty dc, (Builtin.copy_ #[24, 24] ty #[.slice (some ⟨w.heap.size, 0, none⟩) (n + 1) dc, .slice (some ⟨r1, 0, none⟩) 1 c1]).run Tryz.prog W = .ok (goInt 1) (W.setRow w.heap.size (vs ++ ROW.toList.drop vs.length).toArray) := fun W hW ty dc => by
    have := run_copy_at (P := Tryz.prog) W 24 24 ty 50 2 w.heap.size 0 (n + 1) dc ⟨r1, 0, none⟩ 1 c1 ROW 50 vs Tryz.underlying24 hsz (by rw [hW]; exact hg0) (by rw [hv]; simp [Nat.min_def]) (fun j v hj => by rw [Addr.add_lit, Nat.zero_add]; exact cell_list (by rw [hW]; exact hs1) hC1 j v hj) (by omega) o1
    rw [this]
    simp [Nat.min_def]
  have hl1 : (vs ++ ROW.toList.drop vs.length).length = G * 2 := by simp; omega
  generalize hR1 : vs ++ ROW.toList.drop vs.length = R1 at hA hl1
  have hgR : ∀ W : World, W.heap = (w.drew.alloc (.cells ROW 50)).heap → (W.setRow w.heap.size R1.toArray).heap[w.heap.size]? = some (.cells R1.toArray 50 (0, 0)) := fun W hW => setRow_heap _ _ _ _ _ _ (by rw [hW]; exact hg0)
  have hB : ∀ W V : World, W.heap = (w.drew.alloc (.cells ROW 50)).heap → V.heap = (W.setRow w.heap.size R1.toArray).heap → ∀ ty dc sc, (Builtin.copy_ #[24, 24] ty #[.slice (some ⟨w.heap.size, 2, none⟩) n dc, .slice (some ⟨r2, 0, none⟩) n sc]).run Tryz.prog V = .ok (goInt n) (V.setRow w.heap.size (R1.take 2 ++ cs ++ R1.drop (2 + cs.length)).toArray) := fun W V hW hV ty dc sc => by
    have := run_copy_at (P := Tryz.prog) V 24 24 ty 50 2 w.heap.size 2 n dc ⟨r2, 0, none⟩ n sc R1.toArray 50 cs Tryz.underlying24 hsz (by rw [hV]; exact hgR W hW) (by rw [hcs]; simp [Nat.min_def]) (fun j v hj => by rw [Addr.add_lit, Nat.zero_add]; exact cell_list (by rw [hV, setRow_other _ _ _ _ (by omega), hW]; exact hs2) hC2 j v hj) (by simp; omega) o2
    rw [this]
    simp [Nat.min_def]
  have hm := hmf
  have mixed : Tryz.prog.follows .mixedOrders = true := by decide
  have hz2 : ¬ ((0 : Int) = (n : Int)) := by omega
  have hz3 : (c : Int) < (n : Int) + 1 := by omega
  have hb3 : (1 : Int) ≤ (n : Int) + 1 := by omega
  have hb4 : (0 : Int) ≤ (n : Int) + 1 := by omega
  have hb5 : ¬ (G = 1) := by omega
  have hb6 : ¬ (G = 0) := by omega
  have hb7 : ¬ (c = 0) := by omega
  have hfin : ∀ W : World, W.heap = (w.drew.alloc (.cells ROW 50)).heap → W.os = w.os → W.tape = w.tape → W.output = w.output → ∀ V : World, V.heap = (W.setRow w.heap.size R1.toArray).heap → V.os = W.os → V.tape = W.tape → V.output = W.output → ∃ (C' : Array Value) (t' : List Value), G * 2 ≤ C'.size ∧ C'.toList = vs ++ cs ++ t' ∧
        (V.setRow w.heap.size (R1.take 2 ++ cs ++ R1.drop (2 + cs.length)).toArray).heap[w.heap.size]? = some (.cells C' 50 (0, 0)) ∧ w.grownBy (V.setRow w.heap.size (R1.take 2 ++ cs ++ R1.drop (2 + cs.length)).toArray) none := by
    intro W hW q1 q2 q3 V hV q4 q5 q6
    have hsize : V.heap.size = w.heap.size + 1 := by rw [hV]; simp [hW]
    refine ⟨_, R1.drop (2 + cs.length), ?_, ?_, setRow_heap _ _ _ _ _ _ (by rw [hV]; exact hgR W hW), ⟨q4.trans q1, q5.trans q2, q6.trans q3, by simp [hsize], fun k hk _ => ?_⟩⟩
    · simp; omega
    · rw [← hR1]
      simp [List.take_append_of_le_length (by omega : 2 ≤ vs.length), List.take_of_length_le (by omega : vs.length ≤ 2)]
    · rw [setRow_other _ _ _ _ (by omega), hV, setRow_other _ _ _ _ (by omega), hW]
      exact Below.heap_alloc w.drew _ k hk
  clear hROW hG hRl hold hz0 hz1 hi0 hi1 hb1 hR1 hl1
  go_enter Tryz.func211, Tryz.ntmps211
  go_wp2_with (first
    | (at_builtin; refine Lib.wpList_append_run _ rfl _ _ _ _ rfl _ _ rfl rfl _ _ (hrz _) ?_)
    | (refine wpList_copy_runI _ rfl _ _ 24 24 rfl _ _ rfl rfl (hA _ rfl _ _) ?_))
  go_region_law_o (refine step_copy_runI rfl _ _ 24 24 rfl (.slice (some ⟨w.heap.size, 2, none⟩) n (G - 1)) (.slice (some ⟨r2, 0, none⟩) n c) (by simp [Act.eval, Act.put]) (by simp [Act.eval, Act.put]) (hB ((w.alloc (.cells ROW 50)).drew) (((w.alloc (.cells ROW 50)).drew.setRow w.heap.size R1.toArray).drew) rfl rfl 3 (G - 1) c) ?_)
  go_wp2
  go_ret
  obtain ⟨C', t', k1, k2, k3, k4⟩ := hfin ((w.alloc (.cells ROW 50)).drew) rfl rfl rfl rfl (((w.alloc (.cells ROW 50)).drew.setRow w.heap.size R1.toArray).drew) rfl rfl rfl rfl
  rw [List.append_assoc, hcs] at k3 k4
  exact ⟨G, C', t', rfl, hGn, k1, k2, k3, k4⟩
set_option maxHeartbeats 4000000 in
set_option maxRecDepth 100000 in
/-- Into nothing. -/
theorem ins211_nil (r1 c1 : Nat) (C1 : Array Value) (e1 : TypeId) (vs t1 : List Value) (w : World)
    (h1 : w.heap[r1]? = some (.cells C1 e1 (0, 0))) (hv : vs.length = 2) (hC1 : C1.toList = vs ++ t1) (o1 : ∀ v ∈ vs, v.oneCell' = true) (hc1 : 1 ≤ c1) :
    Calls Tryz.prog 211 #[.slice none 0 0, .int .i64 0, .slice (some ⟨r1, 0, none⟩) 1 c1] w fun e w' =>
      ∃ (G : Nat) (C' : Array Value) (t' : List Value), e = .returned (.slice (some ⟨w.heap.size, 0, none⟩) 1 G) ∧ 1 ≤ G ∧ G * 2 ≤ C'.size ∧ C'.toList = vs ++ t' ∧
        w'.heap[w.heap.size]? = some (.cells C' 50 (0, 0)) ∧ w.grownBy w' none := by
  have hsz : (Tryz.prog.info? 50).map (·.size) = some 2 := by kernel_rfl
  have hzz : ((Tryz.prog.info? 50).bind (·.zero)).map (·.cells.size) = some 2 := by kernel_rfl
  have hby : (Tryz.prog.info? 50).map (fun i => Nat.ble i.bytes 1024) = some true := by kernel_rfl
  obtain ⟨i0, hi0⟩ : ∃ i0, Tryz.prog.info? 50 = some i0 := by
    cases hq : Tryz.prog.info? 50 with
    | none => rw [hq] at hsz; cases hsz
    | some i => exact ⟨i, rfl⟩
  have hi1 : i0.size = 2 := by rw [hi0] at hsz; simpa using hsz
  have hb1 : i0.bytes ≤ 1024 := by rw [hi0] at hby; simpa using hby
  obtain ⟨z, hz0, hz1⟩ : ∃ z, i0.zero = some z ∧ z.cells.size = 2 := by
    rw [hi0] at hzz
    cases hq : i0.zero with
    | none => simp [hq] at hzz
    | some z => exact ⟨z, rfl, by simpa [hq] using hzz⟩
  have hsrc : Src Tryz.prog i0.size 24 (.slice (some ⟨r1, 0, none⟩) 1 c1) 1 vs w := Src.ofSlice w Tryz.underlying24 ⟨r1, 0, none⟩ 1 c1 vs (by rw [hi1, hv]) (fun j v hj => by rw [Addr.add_lit, Nat.zero_add]; exact cell_list h1 hC1 j v hj) o1
  obtain ⟨G, hG⟩ : ∃ G, G = grownCap w (0 + 1) 0 50 := ⟨_, rfl⟩
  have hGn : 1 ≤ G := by rw [hG]; exact Nat.le_trans (by omega) (grownCap_ge w (0 + 1) 0 50)
  obtain ⟨ROW, hROW⟩ : ∃ ROW : Array Value, ROW = ([] ++ vs : List Value).toArray ++ Builtin.zeroCells z.cells (G - 1) := ⟨_, rfl⟩
  have hrz : ∀ ty, (Builtin.append_ #[24, 24] ty #[.slice none 0 0, .slice (some ⟨r1, 0, none⟩) 1 c1]).run Tryz.prog w = .ok (.slice (some ⟨w.heap.size, 0, none⟩) 1 G) (w.drew.alloc (.cells ROW 50)) := fun ty => by
    have h := run_append_grow_src w 24 24 ty 50 i0 z Tryz.underlying24 hi0 hz0 none 0 0 [] (run_firstCells_none w.drew i0.size 0 0 0) _ 1 vs hsrc (by omega) (by omega) (growslice_fits (by omega) (by omega))
    rw [← hG] at h
    rw [hROW]
    exact h
  have hfin : G * 2 ≤ ROW.size := by rw [hROW]; simp [Builtin.zeroCells, hz1, hv]; omega
  obtain ⟨t', ht'⟩ : ∃ t', ROW.toList = vs ++ t' := ⟨(Builtin.zeroCells z.cells (G - 1)).toList, by rw [hROW]; simp⟩
  clear hROW hG hi0 hi1 hb1 hz0 hz1 hsrc hsz hzz hby
  have hm := hmf
  go_enter Tryz.func211, Tryz.ntmps211
  go_wp2_with (at_builtin; refine Lib.wpList_append_run _ rfl _ _ _ _ rfl _ _ rfl rfl _ _ (hrz _) ?_)
  go_ret
  exact ⟨G, ROW, t', rfl, hGn, hfin, ht', heap_alloc_new w _, ⟨rfl, rfl, rfl, by simp, fun k hk _ => Below.heap_alloc w _ k hk⟩⟩
set_option maxHeartbeats 4000000 in
set_option maxRecDepth 100000 in
/-- There is room: in place. -/
theorem ins323_room (r2 r1 n c c1 : Nat) (C1 C2 : Array Value) (e1 e2 : TypeId) (vs cs t1 t2 : List Value) (w : World)
    (h1 : w.heap[r1]? = some (.cells C1 e1 (0, 0))) (h2 : w.heap[r2]? = some (.cells C2 e2 (0, 0))) (hne : r1 ≠ r2) (hv : vs.length = 12) (hcs : cs.length = n * 12)
    (hC1 : C1.toList = vs ++ t1) (hC2 : C2.toList = cs ++ t2) (o1 : ∀ v ∈ vs, v.oneCell' = true) (o2 : ∀ v ∈ cs, v.oneCell' = true) (hn : 0 < n) (hc : n + 1 ≤ c) (hcc : c * 12 ≤ C2.size) (hbig : n ≤ 65536) (hc1 : 1 ≤ c1) :
    Calls Tryz.prog 323 #[.slice (some ⟨r2, 0, none⟩) n c, .int .i64 0, .slice (some ⟨r1, 0, none⟩) 1 c1] w fun e w' =>
      e = .returned (.slice (some ⟨r2, 0, none⟩) (n + 1) c) ∧ w' = ((w.drew.setRow r2 (C2.toList.take 12 ++ cs ++ C2.toList.drop (12 + cs.length)).toArray)).setRow r2 (vs ++ (C2.toList.take 12 ++ cs ++ C2.toList.drop (12 + cs.length)).drop vs.length).toArray := by
  have hsz : (Tryz.prog.info? 224).map (·.size) = some 12 := by kernel_rfl
  have hsz0 : ∀ w, (Go.sizeOf 224).run Tryz.prog w = .ok 12 w := fun w => by
    cases hq : Tryz.prog.info? 224 with
    | none => rw [hq] at hsz; cases hsz
    | some i => rw [hq] at hsz; have : i.size = 12 := by simpa using hsz
                simp [Go.sizeOf, typeInfo, hq, this]
  have hov : ∀ lb cb, (callFunc 350 #[.slice (some ⟨r1, 0, none⟩) 1 c1, .slice (some ⟨r2, 12, none⟩) lb cb]).run Tryz.prog w = .ok (.value (.bool false)) w := fun lb cb => by
    have hs1 : w.shape? r1 = some (e1, C1.size) := by unfold World.shape?; rw [h1]
    have hs2 : w.shape? r2 = some (e2, C2.size) := by unfold World.shape?; rw [h2]
    rw [run_callFunc_extern Tryz.func350 (by kernel_rfl) (by kernel_rfl) (by kernel_rfl) (e := Extern.SlicesOverlaps.overlaps #[148, 148] #[4]) (by kernel_rfl),
      Lib.run_overlaps_apart w 148 4 224 Tryz.underlying148 12 hsz0 ⟨r1, 0, none⟩ ⟨r2, 12, none⟩ 1 c1 lb cb hne e1 e2 C1.size C2.size hs1 hs2 (by omega) (frozen_of_row w r1 0 C1 e1 h1) (frozen_of_row w r1 _ C1 e1 h1)]
    rfl
  have hz1 : ¬ ((0 : Int) = (n : Int)) := by omega
  have hw1 : IntKind.i64.wrap ((n : Int) + 1) = (n : Int) + 1 := by rw [IntKind.wrap_i64]; omega
  have hlen2 : C2.toList.length = C2.size := by simp
  have hg0 : w.drew.heap[r2]? = some (.cells C2 e2 (0, 0)) := h2
  have hcp1 : ∀ ty dc sc, (Builtin.copy_ #[148, 148] ty #[.slice (some ⟨r2, 12, none⟩) n dc, .slice (some ⟨r2, 0, none⟩) (n + 1) sc]).run Tryz.prog w.drew = .ok (goInt n) (w.drew.setRow r2 (C2.toList.take 12 ++ cs ++ C2.toList.drop (12 + cs.length)).toArray) := fun ty dc sc => by
    have := run_copy_at (P := Tryz.prog) w.drew 148 148 ty 224 12 r2 12 n dc ⟨r2, 0, none⟩ (n + 1) sc C2 e2 cs Tryz.underlying148 hsz hg0 (by rw [hcs]; simp [Nat.min_def]) (fun j v hj => by rw [Addr.add_lit, Nat.zero_add]; exact cell_list h2 hC2 j v hj) (by omega) o2
    rw [this]
    simp [Nat.min_def]
  have hl1 : (C2.toList.take 12 ++ cs ++ C2.toList.drop (12 + cs.length)).length = C2.size := by simp; omega
  generalize hR1 : C2.toList.take 12 ++ cs ++ C2.toList.drop (12 + cs.length) = R1 at hcp1 hl1 ⊢
  obtain ⟨W1, hW1⟩ : ∃ W1, W1 = w.drew.setRow r2 R1.toArray := ⟨_, rfl⟩
  have hg1 : W1.heap[r2]? = some (.cells R1.toArray e2 (0, 0)) := by rw [hW1]; exact setRow_heap _ _ _ _ _ _ hg0
  have hg2 : W1.heap[r1]? = some (.cells C1 e1 (0, 0)) := by rw [hW1, setRow_other _ _ _ _ hne]; exact h1
  rw [← hW1] at hcp1 ⊢
  have hcp2 : ∀ ty dc, (Builtin.copy_ #[148, 148] ty #[.slice (some ⟨r2, 0, none⟩) (n + 1) dc, .slice (some ⟨r1, 0, none⟩) 1 c1]).run Tryz.prog W1 = .ok (goInt 1) (W1.setRow r2 (vs ++ R1.drop vs.length).toArray) := fun ty dc => by
    have := run_copy_at (P := Tryz.prog) W1 148 148 ty 224 12 r2 0 (n + 1) dc ⟨r1, 0, none⟩ 1 c1 R1.toArray e2 vs Tryz.underlying148 hsz hg1 (by rw [hv]; simp [Nat.min_def]) (fun j v hj => by rw [Addr.add_lit, Nat.zero_add]; exact cell_list hg2 hC1 j v hj) (by simp; omega) o1
    rw [this]
    simp [Nat.min_def]
  subst hW1
  have hm := hmf
  have mixed : Tryz.prog.follows .mixedOrders = true := by decide
  have hb1 : ¬ (c = 1) := by omega
  have hw2 : IntKind.i64.wrap 1 = 1 := by rw [IntKind.wrap_i64]; rfl
  have hb3 : (1 : Int) ≤ (n : Int) + 1 := by omega
  have hb4 : (0 : Int) ≤ (n : Int) + 1 := by omega
  clear hR1
  go_enter Tryz.func323, Tryz.ntmps323
  go_wp2_with (simp only [hov])
  go_region_law_o (refine step_copy_runI rfl _ _ 148 148 rfl _ _ (by simp [Act.eval, Act.put]) (by simp [Act.eval, Act.put]) (hcp1 _ _ _) ?_)
  go_wp2_with (refine wpList_copy_runI _ rfl _ _ 148 148 rfl _ _ rfl rfl (hcp2 _ _) ?_)
  go_ret
  exact ⟨rfl, by rw [hv]⟩
set_option maxHeartbeats 4000000 in
set_option maxRecDepth 100000 in
/-- There is none: a new row. -/
theorem ins323_grow (r2 r1 n c c1 : Nat) (C1 C2 : Array Value) (e1 e2 : TypeId) (vs cs t1 t2 : List Value) (w : World)
    (h1 : w.heap[r1]? = some (.cells C1 e1 (0, 0))) (h2 : w.heap[r2]? = some (.cells C2 e2 (0, 0))) (hv : vs.length = 12) (hcs : cs.length = n * 12)
    (hC1 : C1.toList = vs ++ t1) (hC2 : C2.toList = cs ++ t2) (o1 : ∀ v ∈ vs, v.oneCell' = true) (o2 : ∀ v ∈ cs, v.oneCell' = true) (hn : 0 < n) (hnc : n ≤ c) (hc : c < n + 1) (hbig : n ≤ 65536) (hc1 : 1 ≤ c1) :
    Calls Tryz.prog 323 #[.slice (some ⟨r2, 0, none⟩) n c, .int .i64 0, .slice (some ⟨r1, 0, none⟩) 1 c1] w fun e w' =>
      ∃ (G : Nat) (C' : Array Value) (t' : List Value), e = .returned (.slice (some ⟨w.heap.size, 0, none⟩) (n + 1) G) ∧ n + 1 ≤ G ∧ G * 12 ≤ C'.size ∧ C'.toList = vs ++ cs ++ t' ∧
        w'.heap[w.heap.size]? = some (.cells C' 224 (0, 0)) ∧ w.grownBy w' none := by
  have hsz : (Tryz.prog.info? 224).map (·.size) = some 12 := by kernel_rfl
  have hzz : ((Tryz.prog.info? 224).bind (·.zero)).map (·.cells.size) = some 12 := by kernel_rfl
  have hby : (Tryz.prog.info? 224).map (fun i => Nat.ble i.bytes 1024) = some true := by kernel_rfl
  obtain ⟨i0, hi0⟩ : ∃ i0, Tryz.prog.info? 224 = some i0 := by
    cases hq : Tryz.prog.info? 224 with
    | none => rw [hq] at hsz; cases hsz
    | some i => exact ⟨i, rfl⟩
  have hi1 : i0.size = 12 := by rw [hi0] at hsz; simpa using hsz
  have hb1 : i0.bytes ≤ 1024 := by rw [hi0] at hby; simpa using hby
  obtain ⟨z, hz0, hz1⟩ : ∃ z, i0.zero = some z ∧ z.cells.size = 12 := by
    rw [hi0] at hzz
    cases hq : i0.zero with
    | none => simp [hq] at hzz
    | some z => exact ⟨z, rfl, by simpa [hq] using hzz⟩
  have hr1 : r1 < w.heap.size := (Array.getElem?_eq_some_iff.1 h1).1
  have hr2 : r2 < w.heap.size := (Array.getElem?_eq_some_iff.1 h2).1
  have hold : (Builtin.firstCells i0.size 0 (.slice (some ⟨r2, 0, none⟩) 0 c)).run Tryz.prog w.drew = .ok ([] : List Value).toArray w.drew :=
    run_firstCells_some w.drew i0.size 0 ⟨r2, 0, none⟩ 0 c [] (by simp) (fun j v hj => by simp at hj)
  obtain ⟨G, hG⟩ : ∃ G, G = grownCap w (n + 1) c 224 := ⟨_, rfl⟩
  obtain ⟨ROW, hROW⟩ : ∃ ROW : Array Value, ROW = ([] : List Value).toArray ++ Builtin.zeroCells z.cells (n + 1) ++ Builtin.zeroCells z.cells (G - (n + 1)) := ⟨_, rfl⟩
  have hGn : n + 1 ≤ G := by rw [hG]; exact grownCap_ge w _ _ _
  have hRl : ROW.size = G * 12 := by rw [hROW]; simp [Builtin.zeroCells, hz1]; omega
  have hrz : ∀ ty, (Builtin.append_ #[148, 3] ty #[.slice (some ⟨r2, 0, none⟩) 0 c, .int .i64 ((n : Int) + 1)]).run Tryz.prog w = .ok (.slice (some ⟨w.heap.size, 0, none⟩) (n + 1) G) (w.drew.alloc (.cells ROW 224)) := fun ty => by
    have hfit : Builtin.nextslicecap (0 + (n + 1)) c * i0.bytes ≤ 281474976710656 := growslice_fits (by omega) (by
      have : (0 + (n + 1)) * i0.bytes ≤ 65537 * 1024 := Nat.mul_le_mul (by omega) hb1
      omega)
    have h48 : (n + 1) * i0.bytes ≤ 281474976710656 := by
      have : (n + 1) * i0.bytes ≤ 65537 * 1024 := Nat.mul_le_mul (by omega) hb1
      omega
    have h := Lib.run_append_grow_zeros w 148 3 ty 224 i0 z .i64 .i64 Tryz.underlying148 Tryz.underlying3 hi0 hz0 (some ⟨r2, 0, none⟩) 0 c [] hold (n + 1) (by omega) (by omega) (by omega) (by omega) h48 hfit
    rw [Nat.zero_add, ← hG, ← hROW] at h
    exact h
  have hG63 : G ≤ 9223372036854775807 := by
    have := grownCap_le_maxLen w (n + 1) c 224 (by unfold maxLen; omega)
    rw [← hG] at this
    unfold maxLen at this
    omega
  have hw1 : IntKind.i64.wrap ((n : Int) + 1) = (n : Int) + 1 := by rw [IntKind.wrap_i64]; omega
  have hw2 : IntKind.i64.wrap 1 = 1 := by rw [IntKind.wrap_i64]; rfl
  have hg0 : (w.drew.alloc (.cells ROW 224)).heap[w.heap.size]? = some (.cells ROW 224 (0, 0)) := heap_alloc_new w.drew _
  have hs1 : (w.drew.alloc (.cells ROW 224)).heap[r1]? = some (.cells C1 e1 (0, 0)) := (Below.heap_alloc w.drew _ r1 hr1).trans h1
  have hs2 : (w.drew.alloc (.cells ROW 224)).heap[r2]? = some (.cells C2 e2 (0, 0)) := (Below.heap_alloc w.drew _ r2 hr2).trans h2
  have hA : ∀ W : World, W.heap = (w.drew.alloc (.cells ROW 224)).heap → ∀ ty dc, (Builtin.copy_ #[148, 148] ty #[.slice (some ⟨w.heap.size, 0, none⟩) (n + 1) dc, .slice (some ⟨r1, 0, none⟩) 1 c1]).run Tryz.prog W = .ok (goInt 1) (W.setRow w.heap.size (vs ++ ROW.toList.drop vs.length).toArray) := fun W hW ty dc => by
    have := run_copy_at (P := Tryz.prog) W 148 148 ty 224 12 w.heap.size 0 (n + 1) dc ⟨r1, 0, none⟩ 1 c1 ROW 224 vs Tryz.underlying148 hsz (by rw [hW]; exact hg0) (by rw [hv]; simp [Nat.min_def]) (fun j v hj => by rw [Addr.add_lit, Nat.zero_add]; exact cell_list (by rw [hW]; exact hs1) hC1 j v hj) (by omega) o1
    rw [this]
    simp [Nat.min_def]
  have hl1 : (vs ++ ROW.toList.drop vs.length).length = G * 12 := by simp; omega
  generalize hR1 : vs ++ ROW.toList.drop vs.length = R1 at hA hl1
  have hgR : ∀ W : World, W.heap = (w.drew.alloc (.cells ROW 224)).heap → (W.setRow w.heap.size R1.toArray).heap[w.heap.size]? = some (.cells R1.toArray 224 (0, 0)) := fun W hW => setRow_heap _ _ _ _ _ _ (by rw [hW]; exact hg0)
  have hB : ∀ W V : World, W.heap = (w.drew.alloc (.cells ROW 224)).heap → V.heap = (W.setRow w.heap.size R1.toArray).heap → ∀ ty dc sc, (Builtin.copy_ #[148, 148] ty #[.slice (some ⟨w.heap.size, 12, none⟩) n dc, .slice (some ⟨r2, 0, none⟩) n sc]).run Tryz.prog V = .ok (goInt n) (V.setRow w.heap.size (R1.take 12 ++ cs ++ R1.drop (12 + cs.length)).toArray) := fun W V hW hV ty dc sc => by
    have := run_copy_at (P := Tryz.prog) V 148 148 ty 224 12 w.heap.size 12 n dc ⟨r2, 0, none⟩ n sc R1.toArray 224 cs Tryz.underlying148 hsz (by rw [hV]; exact hgR W hW) (by rw [hcs]; simp [Nat.min_def]) (fun j v hj => by rw [Addr.add_lit, Nat.zero_add]; exact cell_list (by rw [hV, setRow_other _ _ _ _ (by omega), hW]; exact hs2) hC2 j v hj) (by simp; omega) o2
    rw [this]
    simp [Nat.min_def]
  have hm := hmf
  have mixed : Tryz.prog.follows .mixedOrders = true := by decide
  have hz2 : ¬ ((0 : Int) = (n : Int)) := by omega
  have hz3 : (c : Int) < (n : Int) + 1 := by omega
  have hb3 : (1 : Int) ≤ (n : Int) + 1 := by omega
  have hb4 : (0 : Int) ≤ (n : Int) + 1 := by omega
  have hb5 : ¬ (G = 1) := by omega
  have hb6 : ¬ (G = 0) := by omega
  have hb7 : ¬ (c = 0) := by omega
  have hfin : ∀ W : World, W.heap = (w.drew.alloc (.cells ROW 224)).heap → W.os = w.os → W.tape = w.tape → W.output = w.output → ∀ V : World, V.heap = (W.setRow w.heap.size R1.toArray).heap → V.os = W.os → V.tape = W.tape → V.output = W.output → ∃ (C' : Array Value) (t' : List Value), G * 12 ≤ C'.size ∧ C'.toList = vs ++ cs ++ t' ∧
        (V.setRow w.heap.size (R1.take 12 ++ cs ++ R1.drop (12 + cs.length)).toArray).heap[w.heap.size]? = some (.cells C' 224 (0, 0)) ∧ w.grownBy (V.setRow w.heap.size (R1.take 12 ++ cs ++ R1.drop (12 + cs.length)).toArray) none := by
    intro W hW q1 q2 q3 V hV q4 q5 q6
    have hsize : V.heap.size = w.heap.size + 1 := by rw [hV]; simp [hW]
    refine ⟨_, R1.drop (12 + cs.length), ?_, ?_, setRow_heap _ _ _ _ _ _ (by rw [hV]; exact hgR W hW), ⟨q4.trans q1, q5.trans q2, q6.trans q3, by simp [hsize], fun k hk _ => ?_⟩⟩
    · simp; omega
    · rw [← hR1]
      simp [List.take_append_of_le_length (by omega : 12 ≤ vs.length), List.take_of_length_le (by omega : vs.length ≤ 12)]
    · rw [setRow_other _ _ _ _ (by omega), hV, setRow_other _ _ _ _ (by omega), hW]
      exact Below.heap_alloc w.drew _ k hk
  clear hROW hG hRl hold hz0 hz1 hi0 hi1 hb1 hR1 hl1
  go_enter Tryz.func323, Tryz.ntmps323
  go_wp2_with (first
    | (at_builtin; refine Lib.wpList_append_run _ rfl _ _ _ _ rfl _ _ rfl rfl _ _ (hrz _) ?_)
    | (refine wpList_copy_runI _ rfl _ _ 148 148 rfl _ _ rfl rfl (hA _ rfl _ _) ?_))
  go_region_law_o (refine step_copy_runI rfl _ _ 148 148 rfl (.slice (some ⟨w.heap.size, 12, none⟩) n (G - 1)) (.slice (some ⟨r2, 0, none⟩) n c) (by simp [Act.eval, Act.put]) (by simp [Act.eval, Act.put]) (hB ((w.alloc (.cells ROW 224)).drew) (((w.alloc (.cells ROW 224)).drew.setRow w.heap.size R1.toArray).drew) rfl rfl 3 (G - 1) c) ?_)
  go_wp2
  go_ret
  obtain ⟨C', t', k1, k2, k3, k4⟩ := hfin ((w.alloc (.cells ROW 224)).drew) rfl rfl rfl rfl (((w.alloc (.cells ROW 224)).drew.setRow w.heap.size R1.toArray).drew) rfl rfl rfl rfl
  rw [List.append_assoc, hcs] at k3 k4
  exact ⟨G, C', t', rfl, hGn, k1, k2, k3, k4⟩
set_option maxHeartbeats 4000000 in
set_option maxRecDepth 100000 in
/-- Into nothing. -/
theorem ins323_nil (r1 c1 : Nat) (C1 : Array Value) (e1 : TypeId) (vs t1 : List Value) (w : World)
    (h1 : w.heap[r1]? = some (.cells C1 e1 (0, 0))) (hv : vs.length = 12) (hC1 : C1.toList = vs ++ t1) (o1 : ∀ v ∈ vs, v.oneCell' = true) (hc1 : 1 ≤ c1) :
    Calls Tryz.prog 323 #[.slice none 0 0, .int .i64 0, .slice (some ⟨r1, 0, none⟩) 1 c1] w fun e w' =>
      ∃ (G : Nat) (C' : Array Value) (t' : List Value), e = .returned (.slice (some ⟨w.heap.size, 0, none⟩) 1 G) ∧ 1 ≤ G ∧ G * 12 ≤ C'.size ∧ C'.toList = vs ++ t' ∧
        w'.heap[w.heap.size]? = some (.cells C' 224 (0, 0)) ∧ w.grownBy w' none := by
  have hsz : (Tryz.prog.info? 224).map (·.size) = some 12 := by kernel_rfl
  have hzz : ((Tryz.prog.info? 224).bind (·.zero)).map (·.cells.size) = some 12 := by kernel_rfl
  have hby : (Tryz.prog.info? 224).map (fun i => Nat.ble i.bytes 1024) = some true := by kernel_rfl
  obtain ⟨i0, hi0⟩ : ∃ i0, Tryz.prog.info? 224 = some i0 := by
    cases hq : Tryz.prog.info? 224 with
    | none => rw [hq] at hsz; cases hsz
    | some i => exact ⟨i, rfl⟩
  have hi1 : i0.size = 12 := by rw [hi0] at hsz; simpa using hsz
  have hb1 : i0.bytes ≤ 1024 := by rw [hi0] at hby; simpa using hby
  obtain ⟨z, hz0, hz1⟩ : ∃ z, i0.zero = some z ∧ z.cells.size = 12 := by
    rw [hi0] at hzz
    cases hq : i0.zero with
    | none => simp [hq] at hzz
    | some z => exact ⟨z, rfl, by simpa [hq] using hzz⟩
  have hsrc : Src Tryz.prog i0.size 148 (.slice (some ⟨r1, 0, none⟩) 1 c1) 1 vs w := Src.ofSlice w Tryz.underlying148 ⟨r1, 0, none⟩ 1 c1 vs (by rw [hi1, hv]) (fun j v hj => by rw [Addr.add_lit, Nat.zero_add]; exact cell_list h1 hC1 j v hj) o1
  obtain ⟨G, hG⟩ : ∃ G, G = grownCap w (0 + 1) 0 224 := ⟨_, rfl⟩
  have hGn : 1 ≤ G := by rw [hG]; exact Nat.le_trans (by omega) (grownCap_ge w (0 + 1) 0 224)
  obtain ⟨ROW, hROW⟩ : ∃ ROW : Array Value, ROW = ([] ++ vs : List Value).toArray ++ Builtin.zeroCells z.cells (G - 1) := ⟨_, rfl⟩
  have hrz : ∀ ty, (Builtin.append_ #[148, 148] ty #[.slice none 0 0, .slice (some ⟨r1, 0, none⟩) 1 c1]).run Tryz.prog w = .ok (.slice (some ⟨w.heap.size, 0, none⟩) 1 G) (w.drew.alloc (.cells ROW 224)) := fun ty => by
    have h := run_append_grow_src w 148 148 ty 224 i0 z Tryz.underlying148 hi0 hz0 none 0 0 [] (run_firstCells_none w.drew i0.size 0 0 0) _ 1 vs hsrc (by omega) (by omega) (growslice_fits (by omega) (by omega))
    rw [← hG] at h
    rw [hROW]
    exact h
  have hfin : G * 12 ≤ ROW.size := by rw [hROW]; simp [Builtin.zeroCells, hz1, hv]; omega
  obtain ⟨t', ht'⟩ : ∃ t', ROW.toList = vs ++ t' := ⟨(Builtin.zeroCells z.cells (G - 1)).toList, by rw [hROW]; simp⟩
  clear hROW hG hi0 hi1 hb1 hz0 hz1 hsrc hsz hzz hby
  have hm := hmf
  go_enter Tryz.func323, Tryz.ntmps323
  go_wp2_with (at_builtin; refine Lib.wpList_append_run _ rfl _ _ _ _ rfl _ _ rfl rfl _ _ (hrz _) ?_)
  go_ret
  exact ⟨G, ROW, t', rfl, hGn, hfin, ht', heap_alloc_new w _, ⟨rfl, rfl, rfl, by simp, fun k hk _ => Below.heap_alloc w _ k hk⟩⟩
end Go.AM
namespace Go.AM
open Go Go.Proofs Go.ChangeShapes Go.WideShapes Go.ChangeAt Go.RowKit
set_option linter.unusedVariables false
/-! # slices.Insert at the head of a slice without elements, where there is room -/
theorem run_append_zero {P : Program} (w : World) (t ty e : TypeId) (i : TypeInfo) (ht : P.underlying t = some (.slice e)) (hi : P.info? e = some i) (g cap : Nat) (cur : Array Value) (e2 : TypeId) (hg : w.heap[g]? = some (.cells cur e2 (0, 0)))
    (r1 c1 : Nat) (news : List Value) (hl : news.length = i.size) (hnews : ∀ j u, news[j]? = some u → w.cell? ((⟨r1, 0, none⟩ : Addr).add j) = some u) (h1 : ∀ u ∈ news, u.oneCell' = true) (hroom : 1 ≤ cap) (hfit : news.length ≤ cur.size) :
    (Builtin.append_ #[t, t] ty #[.slice (some ⟨g, 0, none⟩) 0 cap, .slice (some ⟨r1, 0, none⟩) 1 c1]).run P w = .ok (.slice (some ⟨g, 0, none⟩) 1 cap) (w.setRow g (news ++ cur.toList.drop news.length).toArray) := by
  have hf := run_firstCells_some (P := P) w i.size 1 ⟨r1, 0, none⟩ 1 c1 news (by rw [hl, Nat.one_mul]) hnews
  have hst := run_storeCells_at P g 0 e2 news 0 cur w hg (by simpa using hfit) h1
  simp only [Nat.add_zero, Nat.zero_add, List.take_zero, List.nil_append] at hst
  simp [Builtin.append_, run_underlying ht, sizeOf, typeInfo, hi, Builtin.lenOf, hroom, hf, Addr.add_lit, hst]
set_option maxHeartbeats 4000000 in
set_option maxRecDepth 100000 in
theorem ins211_zero (r2 r1 c c1 : Nat) (C1 C2 : Array Value) (e1 e2 : TypeId) (vs t1 : List Value) (w : World)
    (h1 : w.heap[r1]? = some (.cells C1 e1 (0, 0))) (h2 : w.heap[r2]? = some (.cells C2 e2 (0, 0))) (hv : vs.length = 2) (hC1 : C1.toList = vs ++ t1) (o1 : ∀ v ∈ vs, v.oneCell' = true) (hc : 1 ≤ c) (hcs : c * 2 ≤ C2.size) (hc1 : 1 ≤ c1) :
    Calls Tryz.prog 211 #[.slice (some ⟨r2, 0, none⟩) 0 c, .int .i64 0, .slice (some ⟨r1, 0, none⟩) 1 c1] w fun e w' =>
      e = .returned (.slice (some ⟨r2, 0, none⟩) 1 c) ∧ w' = w.setRow r2 (vs ++ C2.toList.drop vs.length).toArray := by
  have hsz : (Tryz.prog.info? 50).map (·.size) = some 2 := by kernel_rfl
  obtain ⟨i0, hi0⟩ : ∃ i0, Tryz.prog.info? 50 = some i0 := by
    cases hq : Tryz.prog.info? 50 with
    | none => rw [hq] at hsz; cases hsz
    | some i => exact ⟨i, rfl⟩
  have hi1 : i0.size = 2 := by rw [hi0] at hsz; simpa using hsz
  have hrz : ∀ ty, (Builtin.append_ #[24, 24] ty #[.slice (some ⟨r2, 0, none⟩) 0 c, .slice (some ⟨r1, 0, none⟩) 1 c1]).run Tryz.prog w = .ok (.slice (some ⟨r2, 0, none⟩) 1 c) (w.setRow r2 (vs ++ C2.toList.drop vs.length).toArray) := fun ty =>
    run_append_zero w 24 ty 50 i0 Tryz.underlying24 hi0 r2 c C2 e2 h2 r1 c1 vs (by rw [hv, hi1]) (fun j v hj => by rw [Addr.add_lit, Nat.zero_add]; exact cell_list h1 hC1 j v hj) o1 hc (by rw [hv]; exact Nat.le_trans (Nat.le_trans (by omega) (Nat.mul_le_mul_right _ hc)) hcs)
  clear hi0 hi1 hsz
  have hm := hmf
  go_enter Tryz.func211, Tryz.ntmps211
  go_wp2_with (at_builtin; refine Lib.wpList_append_run _ rfl _ _ _ _ rfl _ _ rfl rfl _ _ (hrz _) ?_)
  go_ret
  exact ⟨rfl, by rw [hv]⟩
set_option maxHeartbeats 4000000 in
set_option maxRecDepth 100000 in
theorem ins323_zero (r2 r1 c c1 : Nat) (C1 C2 : Array Value) (e1 e2 : TypeId) (vs t1 : List Value) (w : World)
    (h1 : w.heap[r1]? = some (.cells C1 e1 (0, 0))) (h2 : w.heap[r2]? = some (.cells C2 e2 (0, 0))) (hv : vs.length = 12) (hC1 : C1.toList = vs ++ t1) (o1 : ∀ v ∈ vs, v.oneCell' = true) (hc : 1 ≤ c) (hcs : c * 12 ≤ C2.size) (hc1 : 1 ≤ c1) :
    Calls Tryz.prog 323 #[.slice (some ⟨r2, 0, none⟩) 0 c, .int .i64 0, .slice (some ⟨r1, 0, none⟩) 1 c1] w fun e w' =>
      e = .returned (.slice (some ⟨r2, 0, none⟩) 1 c) ∧ w' = w.setRow r2 (vs ++ C2.toList.drop vs.length).toArray := by
  have hsz : (Tryz.prog.info? 224).map (·.size) = some 12 := by kernel_rfl
  obtain ⟨i0, hi0⟩ : ∃ i0, Tryz.prog.info? 224 = some i0 := by
    cases hq : Tryz.prog.info? 224 with
    | none => rw [hq] at hsz; cases hsz
    | some i => exact ⟨i, rfl⟩
  have hi1 : i0.size = 12 := by rw [hi0] at hsz; simpa using hsz
  have hrz : ∀ ty, (Builtin.append_ #[148, 148] ty #[.slice (some ⟨r2, 0, none⟩) 0 c, .slice (some ⟨r1, 0, none⟩) 1 c1]).run Tryz.prog w = .ok (.slice (some ⟨r2, 0, none⟩) 1 c) (w.setRow r2 (vs ++ C2.toList.drop vs.length).toArray) := fun ty =>
    run_append_zero w 148 ty 224 i0 Tryz.underlying148 hi0 r2 c C2 e2 h2 r1 c1 vs (by rw [hv, hi1]) (fun j v hj => by rw [Addr.add_lit, Nat.zero_add]; exact cell_list h1 hC1 j v hj) o1 hc (by rw [hv]; exact Nat.le_trans (Nat.le_trans (by omega) (Nat.mul_le_mul_right _ hc)) hcs)
  clear hi0 hi1 hsz
  have hm := hmf
  go_enter Tryz.func323, Tryz.ntmps323
  go_wp2_with (at_builtin; refine Lib.wpList_append_run _ rfl _ _ _ _ rfl _ _ rfl rfl _ _ (hrz _) ?_)
  go_ret
  exact ⟨rfl, by rw [hv]⟩
end Go.AM
