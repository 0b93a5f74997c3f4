/- GuardMusts. -/
import Derived.Test.YtfkkhnceffhilaaRuns
import Derived.StillTailTactics
namespace Go.Proofs.Ytfkkhnceffhilaa
open Go.ChangeShapes Go.WideShapes Go.ChangeAt Go.RowKit
set_option linter.unusedVariables false
set_option linter.unusedSimpArgs false

theorem good_low (W0 : World) (p : Prop) : Good (fun S W => Below W0.heap.size W0 W ∧ (∀ s ∈ S, W0.heap.size ≤ s) ∧ p) := fun S S' W W' h hk hs => by
  obtain ⟨hb, hS, hp⟩ := h
  have := hb.size
  refine ⟨hb.trans (hk.below (fun k _ hx => hS k hx) hb.size), fun s h' => ?_, hp⟩
  rcases hs s h' with h1 | h1
  · exact hS s h1
  · omega
set_option maxHeartbeats 4000000 in
set_option maxRecDepth 100000 in
theorem must38 (o bi c4 a5 : Nat) (A : Option Addr) (n cap : Nat) (Z : Nat → Bool) (i : Nat) (code at' cs : Int) (W : World) (hi : i < n) (hi20 : i < 20) (h52 : Blk W o 52 #[.slice A n cap]) (hbi : Blk W bi 3 #[.int .i64 i])
    (hc : Blk W c4 3 #[.int .i64 code]) (ha : Blk W a5 3 #[.int .i64 at']) (hR : Rowy W (.slice A n cap) n 1 (fun i _ => .bool (Z i))) (hcs : wrap64 (code + i) = cs) :
    Calls Try.prog 38 #[.pointer (some ⟨o, 0, none⟩), .pointer (some ⟨bi, 0, none⟩), .pointer (some ⟨c4, 0, none⟩), .pointer (some ⟨a5, 0, none⟩)] W fun e w' => Ends (mustH (Z i) cs at') e ∧ Kept (fun _ => False) W w' := by
  obtain ⟨A', cap', he, h1, h2, h3⟩ := hR
  cases he
  obtain ⟨b, off, rfl, hbl, hcell⟩ := h3 (by omega)
  have e0 : W.cell? ⟨b, off + i, none⟩ = some (.bool (Z i)) := by simpa using hcell i 0 hi (by omega)
  have c0 : W.cell? ⟨o, 0, none⟩ = some (.slice (some ⟨b, off, none⟩) n cap) := h52.cell 0
  have c1 : W.cell? ⟨bi, 0, none⟩ = some (.int .i64 i) := hbi.cell 0
  have c2 : W.cell? ⟨c4, 0, none⟩ = some (.int .i64 code) := hc.cell 0
  have c3 : W.cell? ⟨a5, 0, none⟩ = some (.int .i64 at') := ha.cell 0
  have hk0 : 0 ≤ (i : Int) := by omega
  have hk1 : (i : Int) < (n : Int) := by omega
  have hm1 : (i : Int) % 100 = i := by omega
  have hm2 : (i : Int).tmod 100 = i := by rw [Int.tmod_eq_emod_of_nonneg hk0]; exact hm1
  have hcs2 : IntKind.i64.wrap (code + i) = cs := by rw [← hcs, wrap64, IntKind.wrap_i64]
  clear hcell h3 h52 hbi hc ha hi hi20
  generalize Z i = z at *
  go_enter Try.func38, Try.ntmps38
  cases z with
  | true =>
    go_region_held3 (fun w' => w'.cell? ⟨b, off + i, none⟩ = some (.bool true) ∧ w'.cell? ⟨o, 0, none⟩ = some (.slice (some ⟨b, off, none⟩) n cap) ∧ w'.cell? ⟨bi, 0, none⟩ = some (.int .i64 i) ∧ w'.cell? ⟨c4, 0, none⟩ = some (.int .i64 code) ∧ w'.cell? ⟨a5, 0, none⟩ = some (.int .i64 at')) (go_keep)
      (first | (go_at_call 14; refine (must_yes _ _ _).mono ?_; rintro e w' ⟨rfl, rfl⟩))
    all_goals go_wp2
    go_end0
    exact ⟨rfl, (Kept.refl _ W).drew⟩
  | false =>
    go_still_tail 9, (by kernel_rfl)
    change wpList _ _ _ _ _ W.drew
    have hK : Kept (fun _ => False) W W.drew := (Kept.refl _ W).drew
    generalize W.drew = w2 at *
    go_wp2_with (first | (go_at_call 14; refine (must_no _ _ _).mono ?_; rintro e w' ⟨⟨l, rfl, hl⟩, rfl⟩))
    exact ⟨rfl, ⟨l, rfl, hl⟩, hK⟩
def fptr (b : Nat) : Value := .pointer (some ⟨b, 0, none⟩)
def fsV (o : Nat) (b : Nat → Nat) (i : Nat) : List Value := (List.range i).map fun j => .func (.func 38) #[] #[.pointer (some ⟨o, 0, none⟩), .pointer (some ⟨b j, 0, none⟩), .pointer (some ⟨o + 1, 0, none⟩), .pointer (some ⟨o + 1 + 1, 0, none⟩)]
theorem fsV_snoc (o bc : Nat) (b : Nat → Nat) (i : Nat) : fsV o b i ++ [.func (.func 38) #[] #[.pointer (some ⟨o, 0, none⟩), .pointer (some ⟨bc, 0, none⟩), .pointer (some ⟨o + 1, 0, none⟩), .pointer (some ⟨o + 1 + 1, 0, none⟩)]] = fsV o (fun j => if j = i then bc else b j) (i + 1) := by
  unfold fsV
  rw [List.range_succ, List.map_append]
  congr 1
  · apply List.map_congr_left
    intro j hj
    have := List.mem_range.1 hj
    simp only [if_neg (show ¬ j = i by omega)]
  · simp
/-- The first that isn't so. -/
def fno (Z : Nat → Bool) : Nat → Int
  | 0 => -1
  | k + 1 => if fno Z k < 0 ∧ Z k = false then k else fno Z k
theorem fno_neg (Z : Nat → Bool) : ∀ k, (∀ j, j < k → Z j = true) → fno Z k = -1
  | 0, _ => rfl
  | k + 1, h => by rw [fno, if_neg (by rw [h k (by omega)]; simp)]; exact fno_neg Z k fun j hj => h j (by omega)
theorem fno_at (Z : Nat → Bool) (i : Nat) (h : ∀ j, j < i → Z j = true) (hi : Z i = false) : ∀ d, fno Z (i + 1 + d) = i
  | 0 => by show fno Z (i + 1) = _; rw [fno, if_pos ⟨by rw [fno_neg Z i h]; omega, hi⟩]
  | d + 1 => by rw [show i + 1 + (d + 1) = (i + 1 + d) + 1 by omega, fno, fno_at Z i h hi d, if_neg (by omega)]
def MIn (w : World) (A : Option Addr) (n cap : Nat) (code at' : Int) (i : Nat) (b : Nat → Nat) (bc : Nat) (v7 : Value) (wr : World) : Prop :=
  Blk wr w.heap.size 52 #[.slice A n cap] ∧ Blk wr (w.heap.size + 1) 3 #[.int .i64 code] ∧ Blk wr (w.heap.size + 1 + 1) 3 #[.int .i64 at'] ∧ (∀ j, j < i → Blk wr (b j) 3 #[.int .i64 j] ∧ w.heap.size ≤ b j) ∧
  Blk wr bc 3 #[.int .i64 i] ∧ w.heap.size + 1 + 1 < bc ∧ wr.ownsRow w.heap.size 1 1 v7 i (fsV w.heap.size b i) ∧ Below w.heap.size w wr
theorem own_form1 {w : World} {B : Nat} {e : TypeId} {s n : Nat} {v : Value} {xs : List Value} (h : w.ownsRow B e s v n xs) : ∃ A c, v = .slice A n c := by
  rcases h.2 with ⟨rfl, rfl⟩ | ⟨g, cap, cur, rfl, _⟩
  · exact ⟨_, _, rfl⟩
  · exact ⟨_, _, rfl⟩
theorem own_type {w : World} {B g n : Nat} {e t : TypeId} {sz : Nat} {v : Value} {xs : List Value} {cs : Array Value} (h : w.ownsRow B e sz v n xs) (hb : Blk w g t cs) (hg : some g = v.ownBlock) : t = e := by
  rcases h.2 with ⟨rfl, _⟩ | ⟨g', cap, cur, rfl, _, hh, _⟩
  · cases hg
  · cases hg
    have := hb.symm.trans hh
    simp at this
    exact this.2
theorem min_step {w wr w1 : World} {A A7 : Option Addr} {n cap c7 : Nat} {code at' : Int} {i : Nat} {b : Nat → Nat} {bc : Nat} {v1 : Value} {x : Value} (h : MIn w A n cap code at' i b bc (.slice A7 i c7) wr) (hne : ∀ g t cs, Blk wr g t cs → t ≠ 1 → some g ≠ (Value.slice A7 i c7).ownBlock)
    (ho : w1.ownsRow w.heap.size 1 1 v1 (i + 1) (fsV w.heap.size b i ++ [.func (.func 38) #[] #[.pointer (some ⟨w.heap.size, 0, none⟩), .pointer (some ⟨bc, 0, none⟩), .pointer (some ⟨w.heap.size + 1, 0, none⟩), .pointer (some ⟨w.heap.size + 1 + 1, 0, none⟩)]])) (hg : (wr.alloc (.cells #[x] 1)).grownBy w1 (Value.slice A7 i c7).ownBlock) :
    MIn w A n cap code at' (i + 1) (fun j => if j = i then bc else b j) w1.heap.size v1 (w1.alloc (.cells #[.int .i64 ((i + 1 : Nat) : Int)] 3)) := by
  obtain ⟨hb0, hb1, hb2, hbs, hbc, hlt0, hown, hB⟩ := h
  have lift : ∀ {g t cs}, Blk wr g t cs → t ≠ 1 → Blk (w1.alloc (.cells #[.int .i64 ((i + 1 : Nat) : Int)] 3)) g t cs := fun hb ht => ((hb.alloc _).grown hg (hne _ _ _ hb ht)).alloc _
  have hs := hg.size
  simp only [World.size_alloc] at hs
  have hl := hb2.lt
  refine ⟨lift hb0 (by decide), lift hb1 (by decide), lift hb2 (by decide), fun j hj => ?_, Blk.new _ _ _, by omega, ?_, ?_⟩
  · show Blk _ (if j = i then bc else b j) _ _ ∧ _ ≤ (if j = i then bc else b j)
    by_cases e : j = i
    · subst e; rw [if_pos rfl]; exact ⟨lift hbc (by decide), by omega⟩
    · rw [if_neg e]; exact ⟨lift (hbs j (by omega)).1 (by decide), (hbs j (by omega)).2⟩
  · rw [fsV_snoc] at ho; exact ho.alloc _
  · exact (Below.grown (hB.alloc hB.size _) hg (by simp only [World.size_alloc]; have := hB.size; omega) (fun k hk => (hown.lt k hk).1)).alloc (by have := hB.size; omega) _
theorem info1 : (Try.prog.info? 1).map (fun i => (i.zero, i.size, i.bytes)) = some (some .nilFunc, 1, 8) := by kernel_rfl
theorem rowy_own1 {w : World} {B n : Nat} {e : TypeId} {v : Value} {xs : List Value} {V : Nat → Value} (h : w.ownsRow B e 1 v n xs) (hV : ∀ i, i < n → xs[i]? = some (V i)) : Rowy w v n 1 (fun i _ => V i) := by
  rcases h.2 with ⟨rfl, h0⟩ | ⟨g, cap, cur, rfl, _, hh, h1, h2, _⟩
  · subst h0; exact ⟨none, 0, rfl, Nat.le_refl _, Nat.zero_le _, fun h => absurd h (Nat.lt_irrefl _)⟩
  · refine ⟨_, _, rfl, h1, h2, fun _ => ⟨g, 0, rfl, (Array.getElem?_eq_some_iff.1 hh).1, fun i j hi hj => ?_⟩⟩
    obtain rfl : j = 0 := by omega
    rw [show (0 + (i * 1 + 0)) = i by omega, h.cellAt i (by omega)]
    exact hV i hi
/-- What First answers over the musts. -/
def MEnd (Z : Nat → Bool) (code at' : Int) (m : Nat) (e : Ending) : Prop :=
  (e = .returned (.tuple #[.int .i64 (-1), .agg #[.int .i64 0, .int .i64 0], .bool false]) ∧ fno Z m = -1) ∨
  (∃ k : Nat, k < m ∧ e = .returned (.tuple #[.int .i64 k, .agg #[.int .i64 (wrap64 (code + k)), .int .i64 at'], .bool true]) ∧ fno Z m = k)
theorem musts_first (w wr : World) (A A7 : Option Addr) (n cap c7 : Nat) (Z : Nat → Bool) (code at' : Int) (i : Nat) (b : Nat → Nat) (bc : Nat) (h : MIn w A n cap code at' i b bc (.slice A7 i c7) wr) (hR : Rowy w (.slice A n cap) n 1 (fun i _ => .bool (Z i))) (hi : i ≤ n) (hi20 : i ≤ 20) :
    Calls Try.prog 16 #[.slice A7 i c7] wr fun e w' => MEnd Z code at' i e ∧ Below wr.heap.size wr w' := by
  obtain ⟨hb0, hb1, hb2, hbs, hbc, hlt0, hown, hB⟩ := h
  have hRw : Rowy wr (.slice A n cap) n 1 (fun i _ => .bool (Z i)) := hR.below hB (Nat.le_refl _)
  refine (first_good (c := wr.heap.size) (n := i) (fid := fun _ => 38) (cp := fun k => #[.pointer (some ⟨w.heap.size, 0, none⟩), .pointer (some ⟨b k, 0, none⟩), .pointer (some ⟨w.heap.size + 1, 0, none⟩), .pointer (some ⟨w.heap.size + 1 + 1, 0, none⟩)])
    (P := fun k S W => Below wr.heap.size wr W ∧ (∀ s ∈ S, wr.heap.size ≤ s) ∧ ∀ j, j < k → Z j = true) (Q := fun k h S W => Below wr.heap.size wr W ∧ (∀ s ∈ S, wr.heap.size ≤ s) ∧ (h = mustH (Z k) (wrap64 (code + k)) at' ∧ ∀ j, j < k → Z j = true))
    (fun k => good_low wr _) (fun k h => good_low wr _) ?_ ?_ ?_ A7 c7 [] wr (by simp) ⟨Below.refl _ _, (by simp), fun j hj => absurd hj (Nat.not_lt_zero _)⟩ (rowy_own1 hown ?_) ?_).mono ?_
  · intro k W _
    simp [go_sem]
  · rintro k S W ⟨h1, h2, h3, h4⟩
    refine ⟨h1, h2, fun j hj => ?_⟩
    by_cases e : j < k
    · exact h4 j e
    · obtain rfl : j = k := by omega
      unfold mustH at h3
      split at h3
      · assumption
      · cases h3
  · rintro k hk S W _ ⟨h1, h2, h3⟩
    refine (must38 _ _ _ _ A n cap Z k code at' _ W (by omega) (by omega) (hb0.below h1 hb0.lt) ((hbs k hk).1.below h1 (hbs k hk).1.lt) (hb1.below h1 hb1.lt) (hb2.below h1 hb2.lt) (hRw.below h1 (Nat.le_refl _)) rfl).mono ?_
    rintro e w' ⟨he, hk'⟩
    exact ⟨_, he, hk'.mono fun _ _ h => h.elim, h1.trans ((hk'.below (fun _ _ h => h.elim) (Nat.le_refl _)).mono h1.size), h2, rfl, h3⟩
  · intro k hk
    simp [fsV, hk]
  · intro a ha hx
    have := (hown.lt a.block (by rw [ha]; rfl)).2
    have := hx.1
    omega
  · rintro e w' ⟨hk, he⟩
    refine ⟨?_, hk.low (Nat.le_refl _)⟩
    rcases he with ⟨rfl, _, _, h⟩ | ⟨k, c, a, hk, rfl, _, _, h, h'⟩ | ⟨k, hk, _, _, _, h, _⟩
    · exact .inl ⟨rfl, fno_neg Z i h⟩
    · unfold mustH at h
      cases hz : Z k with
      | true => rw [hz] at h; cases h
      | false =>
        rw [hz] at h
        cases h
        refine .inr ⟨k, hk, rfl, ?_⟩
        have := fno_at Z k h' hz (i - (k + 1))
        rwa [show k + 1 + (i - (k + 1)) = i by omega] at this
    · unfold mustH at h
      split at h <;> cases h
set_option maxHeartbeats 8000000 in
set_option maxRecDepth 100000 in
theorem musts_any (v : Value) (n : Nat) (Z : Nat → Bool) (code at' : Int) (w : World) (hR : Rowy w v n 1 (fun i _ => .bool (Z i))) :
    Calls Try.prog 8 #[v, .int .i64 code, .int .i64 at'] w fun e w' => e = .returned (.bool true) ∧ Below w.heap.size w w' := by
  have HR := Lib.hid hR
  obtain ⟨A, cap, rfl, h1, h2, h3⟩ := hR
  unfold maxLen at h2
  clear h3
  obtain ⟨i0, hi, hz0, hz1, hz2⟩ := info_parts info1
  have hm := hmf
  go_enter Try.func8, Try.ntmps8
  go_wp2_with fail
  refine wp_forget (fun X => Hid (MIn w A n cap code at' 0 (fun _ => 0) (w.heap.size + 1 + 1 + 1) (.slice none 0 0) X)) (Lib.hid ⟨(((Blk.new _ _ _).alloc _).alloc _).alloc _, ((Blk.new_at (by simp only [World.size_alloc])).alloc _).alloc _, (Blk.new_at (by simp only [World.size_alloc])).alloc _, fun j hj => absurd hj (Nat.not_lt_zero _), Blk.new_at (by simp only [World.size_alloc]), by omega, World.ownsRow_nil _ _ _ _, by go_grown⟩) ?_
  rintro W HM0
  go_loopw [7, 8, 9] (fun s7 s8 s9 wr => ∃ (i : Nat) (b : Nat → Nat) (bc : Nat), s8 = .int .i64 (fno Z i) ∧ s9 = .pointer (some ⟨bc, 0, none⟩) ∧ i ≤ n ∧ i ≤ 20 ∧ Hid (MIn w A n cap code at' i b bc s7 wr)) (fun s7 _ _ wr => 20 - (match s7 with | .slice _ l _ => l | _ => 0))
  case atStart => exact ⟨0, _, _, rfl, rfl, Nat.zero_le _, Nat.zero_le _, HM0⟩
  case round =>
    obtain ⟨i, b, bc, rfl, rfl, hin, hi20, HM⟩ := hrel
    obtain ⟨hb0, hb1, hb2, hbs, hbc, hlt0, hown, hB⟩ := id HM.out
    obtain ⟨A7, c7, rfl⟩ : ∃ A7 c7, u7 = .slice A7 i c7 := by
      rcases hown.2 with ⟨rfl, h0⟩ | ⟨g, cap, cur, rfl, _⟩
      · exact ⟨none, 0, by rw [h0]⟩
      · exact ⟨_, _, rfl⟩
    have HO := Lib.hid (hown.alloc (.cells #[.func (.func 38) #[] #[.pointer (some ⟨w.heap.size, 0, none⟩), .pointer (some ⟨bc, 0, none⟩), .pointer (some ⟨w.heap.size + 1, 0, none⟩), .pointer (some ⟨w.heap.size + 1 + 1, 0, none⟩)]] 1))
    have HBC := Lib.hid hbc
    have hne : ∀ g t cs, Blk wr g t cs → t ≠ 1 → some g ≠ (Value.slice A7 i c7).ownBlock := fun g t cs h ht e => ht (own_type hown h e)
    have HNE := Lib.hid hne
    have c0 : wr.cell? ⟨w.heap.size, 0, none⟩ = some (.slice A n cap) := hb0.cell 0
    have e9 : wr.cell? ⟨bc, 0, none⟩ = some (.int .i64 i) := hbc.cell 0
    have hwr := hB.size
    have hbl := hbc.lt
    by_cases hlt : i < n ∧ i < 20
    · obtain ⟨A', cap', he, _, _, h3⟩ := HR.out
      cases he
      obtain ⟨bz, off, rfl, hbz, hcz⟩ := h3 (by omega)
      have eZ : wr.cell? ⟨bz, off + i, none⟩ = some (.bool (Z i)) := by rw [hB.cell (p := ⟨bz, _, none⟩) hbz]; simpa using hcz i 0 hlt.1 (by omega)
      have hk0 : 0 ≤ (i : Int) := by omega
      have hk1 : (i : Int) < (n : Int) := by omega
      have hk2 : (i : Int) < 20 := by omega
      have HL : Hid (i + 1 ≤ n ∧ i + 1 ≤ 20) := hlt
      obtain ⟨x, hx⟩ : ∃ x, fno Z i = x := ⟨_, rfl⟩
      have HX := Lib.hid hx
      rw [hx]
      clear h3 hcz hlt hown hbc hne hbs hb0 hb1 hb2 hx hB
      obtain ⟨z, hz⟩ : ∃ z, Z i = z := ⟨_, rfl⟩
      have HZ := Lib.hid hz
      rw [hz] at eZ
      clear hz
      cases z with
      | true =>
        go_wp2_with (at_builtin; refine wpList_append_own_at _ rfl (.tmp 33) (.tmp 35) 46 rfl w.heap.size 1 i0 .nilFunc 1 8 Try.underlying46 hi hz0 hz1 hz2 rfl (by decide) _ i _ rfl HO.out ⟨wr.heap.size, 0, none⟩ 1 1 [.func (.func 38) #[] #[.pointer (some ⟨w.heap.size, 0, none⟩), .pointer (some ⟨bc, 0, none⟩), .pointer (some ⟨w.heap.size + 1, 0, none⟩), .pointer (some ⟨w.heap.size + 1 + 1, 0, none⟩)]] rfl rfl (cell_one_new _ _ _) (by simp [Value.oneCell']) (by unfold maxLen; omega) (by omega) (by go_size) ?_; intro v1 w1 hown1 hg1 hnil hat; obtain ⟨A8, c8, rfl⟩ := own_form1 hown1; have HO1 := Lib.hid hown1; have HG1 := Lib.hid hg1; have e9' : w1.cell? ⟨bc, 0, none⟩ = some (.int .i64 i) := ((HBC.out.alloc _).grown hg1 (HNE.out _ _ _ HBC.out (by decide))).cell 0; have hs1 := hg1.size; clear hown1 hg1 hnil hat)
        go_roundw
        case rel => exact ⟨i + 1, fun j => if j = i then bc else b j, w1.heap.size, val_int (by rw [fno, if_neg (by rw [HZ.out]; simp)]; exact HX.out.symm), rfl, HL.out.1, HL.out.2, Lib.hid (min_step HM.out HNE.out HO1.out HG1.out)⟩
        case measure => have := HL.out; simp; omega
      | false =>
        by_cases hx0 : x < 0
        · have HX0 := Lib.hid hx0
          go_wp2_with (at_builtin; refine wpList_append_own_at _ rfl (.tmp 33) (.tmp 35) 46 rfl w.heap.size 1 i0 .nilFunc 1 8 Try.underlying46 hi hz0 hz1 hz2 rfl (by decide) _ i _ rfl HO.out ⟨wr.heap.size, 0, none⟩ 1 1 [.func (.func 38) #[] #[.pointer (some ⟨w.heap.size, 0, none⟩), .pointer (some ⟨bc, 0, none⟩), .pointer (some ⟨w.heap.size + 1, 0, none⟩), .pointer (some ⟨w.heap.size + 1 + 1, 0, none⟩)]] rfl rfl (cell_one_new _ _ _) (by simp [Value.oneCell']) (by unfold maxLen; omega) (by omega) (by go_size) ?_; intro v1 w1 hown1 hg1 hnil hat; obtain ⟨A8, c8, rfl⟩ := own_form1 hown1; have HO1 := Lib.hid hown1; have HG1 := Lib.hid hg1; have e9' : w1.cell? ⟨bc, 0, none⟩ = some (.int .i64 i) := ((HBC.out.alloc _).grown hg1 (HNE.out _ _ _ HBC.out (by decide))).cell 0; have hs1 := hg1.size; clear hown1 hg1 hnil hat)
          go_roundw
          case rel => exact ⟨i + 1, fun j => if j = i then bc else b j, w1.heap.size, val_int (by rw [fno, if_pos ⟨by rw [HX.out]; exact HX0.out, HZ.out⟩]), rfl, HL.out.1, HL.out.2, Lib.hid (min_step HM.out HNE.out HO1.out HG1.out)⟩
          case measure => have := HL.out; simp; omega
        · have HX0 := Lib.hid hx0
          go_wp2_with (at_builtin; refine wpList_append_own_at _ rfl (.tmp 33) (.tmp 35) 46 rfl w.heap.size 1 i0 .nilFunc 1 8 Try.underlying46 hi hz0 hz1 hz2 rfl (by decide) _ i _ rfl HO.out ⟨wr.heap.size, 0, none⟩ 1 1 [.func (.func 38) #[] #[.pointer (some ⟨w.heap.size, 0, none⟩), .pointer (some ⟨bc, 0, none⟩), .pointer (some ⟨w.heap.size + 1, 0, none⟩), .pointer (some ⟨w.heap.size + 1 + 1, 0, none⟩)]] rfl rfl (cell_one_new _ _ _) (by simp [Value.oneCell']) (by unfold maxLen; omega) (by omega) (by go_size) ?_; intro v1 w1 hown1 hg1 hnil hat; obtain ⟨A8, c8, rfl⟩ := own_form1 hown1; have HO1 := Lib.hid hown1; have HG1 := Lib.hid hg1; have e9' : w1.cell? ⟨bc, 0, none⟩ = some (.int .i64 i) := ((HBC.out.alloc _).grown hg1 (HNE.out _ _ _ HBC.out (by decide))).cell 0; have hs1 := hg1.size; clear hown1 hg1 hnil hat)
          go_roundw
          case rel => exact ⟨i + 1, fun j => if j = i then bc else b j, w1.heap.size, val_int (by rw [fno, if_neg (by rw [HX.out]; intro h; exact HX0.out h.1)]; exact HX.out.symm), rfl, HL.out.1, HL.out.2, Lib.hid (min_step HM.out HNE.out HO1.out HG1.out)⟩
          case measure => have := HL.out; simp; omega
    · have HI := Lib.hid (⟨hin, hi20⟩ : i ≤ n ∧ i ≤ 20)
      have hcc : (¬ (i : Int) < (n : Int)) ∨ ((i : Int) < (n : Int) ∧ ¬ (i : Int) < 20) := by omega
      have H1 := Lib.hid (hb1.alloc (.cells #[.int .i64 0] 3))
      have e1 := hb1.cell 0
      have e2 := hb2.cell 0
      have H1 := Lib.hid hb1
      have H2 := Lib.hid hb2
      have HB := Lib.hid hB
      clear hlt hin hi20 hown hbc hne hbs hb0 hb1 hb2 hB
      obtain ⟨x, hx⟩ : ∃ x, fno Z i = x := ⟨_, rfl⟩
      have HX := Lib.hid hx
      rw [hx]
      clear hx e1 e2
      rcases hcc with hc1 | ⟨hc1, hc2⟩
      all_goals
        go_wp2_with fail
        refine (musts_first w wr A A7 n cap c7 Z code at' i b bc HM.out HR.out HI.out.1 HI.out.2).mono ?_
        rintro e w1 ⟨he, hb1⟩
        have hs1 := hb1.size
        have e1 : w1.cell? ⟨w.heap.size + 1, 0, none⟩ = some (.int .i64 code) := (H1.out.below hb1 H1.out.lt).cell 0
        have e2 : w1.cell? ⟨w.heap.size + 1 + 1, 0, none⟩ = some (.int .i64 at') := (H2.out.below hb1 H2.out.lt).cell 0
        have hl1 : w.heap.size + 1 < w1.heap.size := by have := H1.out.lt; omega
        have hl2 : w.heap.size + 1 + 1 < w1.heap.size := by have := H2.out.lt; omega
        have hB1 : Below w.heap.size w w1 := HB.out.trans (hb1.mono hwr)
        have hs2 := hB1.size
        rcases he with ⟨rfl, hf⟩ | ⟨k, hk, rfl, hf⟩
        · obtain rfl : x = -1 := HX.out.symm.trans hf
          clear hf e1 e2 hl1 hl2 hc1
          go_wp2_with (go_at_call 3; refine (runs_any _).mono ?_; rintro e w2 ⟨rfl, hb2⟩; have hB2 : Below w.heap.size w w2 := Below.trans (by go_grown) (hb2.mono (by go_size)))
          go_ret
          exact ⟨rfl, hB2⟩
        · obtain rfl : x = k := HX.out.symm.trans hf
          have hk0 : 0 ≤ (k : Int) := by omega
          have hk9 : (k : Int) < 100 := by have := HI.out.2; omega
          have hm1 : (k : Int) % 100 = k := by omega
          clear hf hc1 hk
          go_wp2_with (go_at_call 3; refine (runs_any _).mono ?_; rintro e w2 ⟨rfl, hb2⟩; have hB2 : Below w.heap.size w w2 := Below.trans (by go_grown) (hb2.mono (by go_size)))
          go_ret
          exact ⟨rfl, hB2⟩
end Go.Proofs.Ytfkkhnceffhilaa
