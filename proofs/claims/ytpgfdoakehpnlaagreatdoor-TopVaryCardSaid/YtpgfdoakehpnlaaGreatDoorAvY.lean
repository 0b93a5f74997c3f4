import Derived.Test.YtpgfdoakehpnlaaGreatDoorAvX
import Derived.Test.YtpgfdoakehpnlaaGreatDoorAvU
import Derived.Deep.AppendSrc
set_option linter.unusedVariables false
set_option linter.unusedSimpArgs false
namespace Go.AM
open Go Go.Proofs Go.ChangeShapes Go.WideShapes Go.ChangeAt Go.RowKit Go.AM.Pi
set_option linter.unusedVariables false
set_option linter.unusedSimpArgs false
/-! # TopVary: a text is appended to a row of one's own; pack.text -/
theorem run_append_own_string (w : World) (base ty : Nat) (v : Value) (n : Nat) (xs : List Value) (hown : w.ownsRow base 5 1 v n xs) (s : ByteArray) (h63 : n + s.size ≤ 140737488355328) (hbase : base ≤ w.heap.size) :
    ∃ v' w', (Builtin.append_ #[81, 9] ty #[v, .string s]).run Tryz.prog w = .ok v' w' ∧ w'.ownsRow base 5 1 v' (n + s.size) (xs ++ Go.byteCells s) ∧ w.grownBy w' v.ownBlock := by
  obtain ⟨i, hi, hz, hz1, hz2⟩ := info_parts info5
  have hs : Src Tryz.prog i.size 9 (.string s) s.size (Go.byteCells s) w := by rw [hz1]; exact Src.ofString w Tryz.underlying9 s
  have hml : maxLen = 9223372036854775807 := by unfold maxLen; omega
  have hlen : (xs ++ Go.byteCells s).length = (n + s.size) * 1 := by rw [List.length_append, hown.1, Go.byteCells_length]; omega
  have hnl : (Go.byteCells s).length = s.size := Go.byteCells_length s
  have grown : ∀ (old : Nat), old < n + s.size → ∀ (row : Option Nat),
      (w.drew.alloc (.cells ((xs ++ Go.byteCells s).toArray ++ Builtin.zeroCells (Value.int .u8 0).cells (grownCap w (n + s.size) old 5 - (n + s.size))) 5)).ownsRow base 5 1
        (.slice (some ⟨w.heap.size, 0, none⟩) (n + s.size) (grownCap w (n + s.size) old 5)) (n + s.size) (xs ++ Go.byteCells s) ∧
      w.grownBy (w.drew.alloc (.cells ((xs ++ Go.byteCells s).toArray ++ Builtin.zeroCells (Value.int .u8 0).cells (grownCap w (n + s.size) old 5 - (n + s.size))) 5)) row := by
    intro old ho row
    have hge := grownCap_ge w (n + s.size) old 5
    have hcm : grownCap w (n + s.size) old 5 ≤ maxLen := grownCap_le_maxLen w (n + s.size) old 5 (by omega)
    refine ⟨⟨hlen, .inr ⟨w.heap.size, _, _, rfl, hbase, heap_alloc_new w.drew _, hge, hcm, ?_, ?_⟩⟩, ⟨rfl, rfl, rfl, by simp, fun k hk _ => Below.heap_alloc w.drew _ k hk⟩⟩
    · have hzc : (Value.int .u8 0).cells.size = 1 := rfl
      simp only [Array.size_append, List.size_toArray, size_zeroCells, hzc, hlen]
      omega
    · simp only [Array.toList_append]
      rw [← hlen]
      exact List.take_left
  rcases hown.2 with ⟨rfl, rfl⟩ | ⟨g, cap, cur, rfl, hbg, hg, hnc, hcm, hcs, htake⟩
  · have hx : xs = [] := List.eq_nil_of_length_eq_zero (by simpa using hown.1)
    subst hx
    by_cases hm : s.size = 0
    · obtain rfl := ba_nil s hm
      refine ⟨.slice none 0 0, w, ?_, World.ownsRow_nil w base 5 1, ⟨rfl, rfl, rfl, Nat.le_refl _, fun _ _ _ => rfl⟩⟩
      simp [Builtin.append_, run_underlying Tryz.underlying81, run_underlying Tryz.underlying9, sizeOf, typeInfo, hi, Builtin.lenOf, Builtin.firstCells, ByteArray.size]
    · have hf : (Builtin.firstCells i.size 0 (.slice none 0 0)).run Tryz.prog w.drew = .ok ([] : List Value).toArray w.drew := rfl
      have hr := run_append_grow_src (P := Tryz.prog) w 81 9 ty 5 i _ Tryz.underlying81 hi hz none 0 0 [] hf (.string s) s.size (Go.byteCells s) hs (by omega) (by omega) (by rw [Nat.zero_add, nextslicecap_zero (by omega), hz2]; omega)
      have hgr := grown 0 (by omega) (Value.ownBlock (.slice none 0 0))
      exact ⟨_, _, hr, hgr.1, hgr.2⟩
  · by_cases hroom : n + s.size ≤ cap
    · have hfit : n * 1 + (Go.byteCells s).length ≤ cur.size := by rw [hnl, hcs]; omega
      have hst := run_storeCells_at Tryz.prog g n 5 (Go.byteCells s) 0 cur w hg (by simpa using hfit) hs.one
      simp only [Nat.add_zero] at hst
      have hcells : (Builtin.firstCells 1 s.size (.string s)).run Tryz.prog w = .ok (Go.byteCells s).toArray w := Go.firstCells_string s w
      have hr : (Builtin.append_ #[81, 9] ty #[.slice (some ⟨g, 0, none⟩) n cap, .string s]).run Tryz.prog w = .ok (.slice (some ⟨g, 0, none⟩) (n + s.size) cap) (w.setRow g (cur.toList.take n ++ Go.byteCells s ++ cur.toList.drop (n + (Go.byteCells s).length)).toArray) := by
        simp [Builtin.append_, run_underlying Tryz.underlying81, run_underlying Tryz.underlying9, sizeOf, typeInfo, hi, hz1, Builtin.lenOf, hroom, hcells, Addr.add_lit, hst]
      refine ⟨_, _, hr, ⟨hlen, .inr ⟨g, cap, _, rfl, hbg, setRow_heap w g cur _ 5 _ hg, hroom, hcm, ?_, ?_⟩⟩, ⟨rfl, rfl, rfl, by simp, fun k _ hk => setRow_other w g k _ (fun e => hk (by simp [Value.ownBlock, e]))⟩⟩
      · simp only [List.size_toArray, List.length_append, List.length_take, List.length_drop, Array.length_toList]
        omega
      · have htake' : cur.toList.take n = xs := by rw [← htake, Nat.mul_one]
        rw [htake', ← hlen]
        exact List.take_left
    · have hb : (Builtin.firstCells i.size n (.slice (some ⟨g, 0, none⟩) n cap)).run Tryz.prog w.drew = .ok xs.toArray w.drew := run_firstCells_some w.drew i.size n ⟨g, 0, none⟩ n cap xs (by rw [hz1]; exact hown.1) (fun j u hj => by simpa using hown.cells (g := g) rfl j u hj)
      have hr := run_append_grow_src (P := Tryz.prog) w 81 9 ty 5 i _ Tryz.underlying81 hi hz (some ⟨g, 0, none⟩) n cap xs hb (.string s) s.size (Go.byteCells s) hs (by omega) (by omega) (growslice_fits (by omega) (by rw [hz2]; omega))
      have hgr := grown cap (by omega) (Value.ownBlock (.slice (some ⟨g, 0, none⟩) n cap))
      exact ⟨_, _, hr, hgr.1, hgr.2⟩
end Go.AM
namespace Go.AM
open Go Go.Proofs Go.ChangeShapes Go.WideShapes Go.ChangeAt Go.RowKit Go.AM.Pi
set_option linter.unusedVariables false
set_option linter.unusedSimpArgs false
/-! # TopVary: pack.text -/
theorem wpList_append_str {w : World} {ops : Array Oper} {rest : List Oper} {o : Oper} {a : Act} {Q : Exit → Act → World → Prop} (hgd : o.guard = none) (sl x : Operand)
    (ho : o.op = .call { callee := .builtin .append, args := #[sl, x], argTypes := #[81, 9] }) (base : Nat) (v : Value) (n : Nat) (xs : List Value) (hv : a.eval sl = v) (hown : w.ownsRow base 5 1 v n xs)
    (s : ByteArray) (hx : a.eval x = .string s) (h63 : n + s.size ≤ 140737488355328) (hbase : base ≤ w.heap.size)
    (h : ∀ v' w', w'.ownsRow base 5 1 v' (n + s.size) (xs ++ Go.byteCells s) → w.grownBy w' v.ownBlock → wpList Tryz.prog ops Q rest (a.put o.dst v') w') : wpList Tryz.prog ops Q (o :: rest) a w := by
  refine wpList_plain hgd fun K hK => ?_
  obtain ⟨v', w', hrun, h1, h2⟩ := run_append_own_string w base o.type v n xs hown s h63 hbase
  unfold Oper.wp
  simp only [Go.execOp, ho, Go.resolve, Go.invoke, Go.builtin, Sem.run_bind, Sem.run_pure, Result.andThen_ok, List.map_toArray, List.map_cons, List.map_nil, hv, hx, hrun]
  exact hK _ _ (h _ _ h1 h2)
theorem byteCells_nb (s : ByteArray) : Go.byteCells s = bv (ints (nb s)) := by
  unfold Go.byteCells bv ints nb
  rw [List.map_map, List.map_map]
  rfl
theorem tailL_len : ∀ (f : Nat) (x : Int), (tailL f x).length ≤ f + 1
  | 0, x => Nat.le_refl _
  | f+1, x => by
    unfold tailL
    split
    · simp
    · have := tailL_len f (x / 128)
      rw [List.length_cons]; omega
theorem putL_len (n t x : Int) : (putL n t x).length ≤ 7 := by
  unfold putL
  split
  · simp
  split
  · simp
  · have := tailL_len 5 (x - (pw n - 1))
    rw [List.length_cons]; omega
set_option maxHeartbeats 1000000 in
set_option maxRecDepth 100000 in
theorem text_any (v : Value) (L : List Int) (s : ByteArray) (hs : s.size ≤ 65536) (w : World) (h6 : 6 ≤ w.heap.size) (hR : BS w v L) (hn : L.length ≤ 1000000000) :
    Calls Tryz.prog 209 #[v, .string s] w fun e w' => ∃ r, e = .returned r ∧ w'.ownsRow w.heap.size 5 1 r (L ++ tI s).length (bv (L ++ tI s)) ∧ Below w.heap.size w w' := by
  obtain ⟨i0, hi, hz0, hz1, hz2⟩ := info_parts info5
  have HR := Lib.hid hR
  have hSz := size_any s hs w h6
  have hEn := fun w1 h => encode_any s hs w1 h
  have hsize : Hu.size (nb s) ≤ 300000 := by have := bl_le s s.size (Nat.le_refl _); unfold Hu.size; rw [← bl_all]; omega
  have helen : (Hu.enc (nb s)).length = Hu.size (nb s) := Hu.enc_len _
  generalize htI : tI s = T
  unfold tI at htI
  generalize Hu.enc (nb s) = E at *
  generalize Hu.size (nb s) = sz at *
  clear hR
  by_cases hlt : sz < s.size
  · rw [if_pos hlt] at htI
    have hlti : (sz : Int) < (s.size : Int) := by omega
    have hpl : (putL 7 128 (sz : Nat)).length ≤ 7 := putL_len _ _ _
    go_enter Tryz.func209, Tryz.ntmps209
    go_upto_region 2 with (go_at_call 256; refine hSz.mono ?_; rintro e w1 ⟨rfl, hB1⟩)
    have hs1 := hB1.size
    have HR1 := Lib.hid (HR.out.below hB1 (Nat.le_refl _))
    go_wp2_with (first
      | (go_at_call 169; refine (put_any _ L 7 128 (sz : Nat) _ HR1.out (by omega) (by omega) (by omega) (by omega) (by omega) (by omega) (by omega)).mono ?_; rintro e w2 ⟨r2, rfl, hown2, hB2⟩)
      | (go_at_call 257; refine (hEn _ (by have := hB2.size; omega)).mono ?_; rintro e w3 ⟨r3, rfl, hown3, hB3⟩; obtain ⟨A3, c3, rfl, hc3, hm3, hx3⟩ := bs_own hown3 (by rw [ints_len]))
      | (at_builtin
         refine wpList_append_src rfl (.tmp 14) (.tmp 16) 81 rfl w1.heap.size 5 i0 _ 1 1 Tryz.underlying81 hi hz0 hz1 hz2 rfl (by decide) r2 _ _ rfl (own_below hown2 hB3) A3 _ c3 (bv (ints E)) rfl (bs_src (L := ints E) ⟨A3, c3, rfl, hc3, hm3, hx3⟩).2.1 (by rw [bv_len, Nat.mul_one]) (bs_src (L := ints E) ⟨A3, c3, rfl, hc3, hm3, hx3⟩).2.2 (bv_one _) (by rw [ints_len, helen, List.length_append]; unfold maxLen; omega) (by rw [ints_len, helen, List.length_append]; omega) (by have := hB2.size; have := hB3.size; omega) ?_
         intro r4 w4 hown4 hg4))
    have hB12 : Below w.heap.size w w3 := (hB1.trans (hB2.mono hs1)).trans (hB3.mono (Nat.le_trans hs1 hB2.size))
    have hw4 : Below w.heap.size w w4 := Below.grown (w := _) hB12 hg4 (Nat.le_trans hs1 (Nat.le_trans hB2.size hB3.size)) (fun g hg => Nat.le_trans hs1 ((own_below hown2 hB3).lt g hg).1)
    rw [bv_app, List.append_assoc, htI] at hown4
    go_ret
    refine ⟨r4, rfl, own_base ?_ hs1, hw4⟩
    rw [← htI] at hown4 ⊢
    simpa [Nat.add_assoc] using hown4
  · rw [if_neg hlt] at htI
    have hlti : ¬ (sz : Int) < (s.size : Int) := by omega
    have hpl : (putL 7 0 (s.size : Nat)).length ≤ 7 := putL_len _ _ _
    go_enter Tryz.func209, Tryz.ntmps209
    go_upto_region 2 with (go_at_call 256; refine hSz.mono ?_; rintro e w1 ⟨rfl, hB1⟩)
    have hs1 := hB1.size
    have HR1 := Lib.hid (HR.out.below hB1 (Nat.le_refl _))
    go_wp2_with (first
      | (go_at_call 169; refine (put_any _ L 7 0 (s.size : Nat) _ HR1.out (by omega) (by omega) (by omega) (by omega) (by omega) (by omega) (by omega)).mono ?_; rintro e w2 ⟨r2, rfl, hown2, hB2⟩)
      | (at_builtin
         refine wpList_append_str rfl (.tmp 21) (.tmp 22) rfl w1.heap.size r2 _ _ rfl hown2 s rfl (by rw [List.length_append]; omega) hB2.size ?_
         intro r4 w4 hown4 hg4))
    have hB12 : Below w.heap.size w w2 := hB1.trans (hB2.mono hs1)
    have hw4 : Below w.heap.size w w4 := Below.grown (w := _) hB12 hg4 (Nat.le_trans hs1 hB2.size) (fun g hg => Nat.le_trans hs1 (hown2.lt g hg).1)
    rw [byteCells_nb, bv_app, List.append_assoc, htI] at hown4
    go_ret
    refine ⟨r4, rfl, own_base ?_ hs1, hw4⟩
    rw [← htI] at hown4 ⊢
    simpa [Nat.add_assoc, ints_len, nb_len] using hown4
end Go.AM
