/- GuardFirst: the functions that play a row each, and First over them. -/
import Derived.Test.YtfkkhnceffhilaaLastB
import Derived.Deep.RegionHeld3
namespace Go.Proofs.Ytfkkhnceffhilaa
open Go.ChangeShapes Go.WideShapes Go.ChangeAt Go.RowKit
set_option linter.unusedVariables false
set_option linter.unusedSimpArgs false

/-- What the first k rows come to: the notes, and the last end; all before it are fine. -/
inductive FT (L : Nat → List Act) : Nat → List Int → How → Prop
  | zero : FT L 0 [] .fine
  | step {k : Nat} {N ns : List Int} {h : How} (hf : FT L k N .fine) (ht : Told (cut (L k) 12) ns h) : FT L (k + 1) (N ++ ns) h
theorem ft_len {L : Nat → List Act} {k : Nat} {N : List Int} {h : How} (hf : FT L k N h) : N.length ≤ 36 * k := by
  induction hf with
  | zero => simp
  | @step k N ns h _ ht ih => have h1 := told_len ht; have h2 := cut_len (L k) 12; simp; omega
def cat (nq : Nat → List Int) : Nat → List Int
  | 0 => []
  | k + 1 => cat nq k ++ nq k
def lastq (hq : Nat → How) : Nat → How
  | 0 => .fine
  | k + 1 => hq k
theorem cat_congr {nq nq' : Nat → List Int} : ∀ {k : Nat}, (∀ j, j < k → nq j = nq' j) → cat nq k = cat nq' k
  | 0, _ => rfl
  | k + 1, h => by rw [cat, cat, cat_congr fun j hj => h j (by omega), h k (by omega)]
theorem ft_seq {L : Nat → List Act} {k : Nat} {N : List Int} {h : How} (hf : FT L k N h) : ∃ (nq : Nat → List Int) (hq : Nat → How), (∀ j, j < k → Told (cut (L j) 12) (nq j) (hq j)) ∧ (∀ j, j + 1 < k → hq j = .fine) ∧ N = cat nq k ∧ h = lastq hq k := by
  induction hf with
  | zero => exact ⟨fun _ => [], fun _ => .fine, fun j hj => absurd hj (Nat.not_lt_zero _), fun _ _ => rfl, rfl, rfl⟩
  | @step k N ns h _ ht ih =>
    obtain ⟨nq, hq, h1, h2, h3, h4⟩ := ih
    refine ⟨fun j => if j = k then ns else nq j, fun j => if j = k then h else hq j, fun j hj => ?_, fun j hj => ?_, ?_, ?_⟩
    · by_cases e : j = k
      · subst e; simpa using ht
      · simpa [e] using h1 j (by omega)
    · show (if j = k then h else hq j) = .fine
      rw [if_neg (by omega)]
      by_cases e : j + 1 = k
      · subst e; exact h4.symm
      · exact h2 j (by omega)
    · show N ++ ns = cat _ (k + 1)
      rw [cat, if_pos rfl, h3]
      congr 1
      exact cat_congr fun j hj => by rw [if_neg (by omega)]
    · show h = if k = k then h else hq k
      rw [if_pos rfl]
/-- All blocks below y but c are as in Y, and none of them is named. -/
def St (Y : World) (c y : Nat) (S : List Nat) (X : World) : Prop := y + 3 ≤ X.heap.size ∧ ∀ g, g < y → g ≠ c → X.heap[g]? = Y.heap[g]? ∧ g ∉ S
theorem st_good (Y : World) (c y : Nat) : Good (St Y c y) := fun S S' W W' h hk hs => ⟨Nat.le_trans h.1 hk.size, fun g hg hc => ⟨(hk.block g (by have := h.1; omega) (h.2 g hg hc).2).trans (h.2 g hg hc).1, fun hx => by
  rcases hs g hx with h1 | h1
  · exact (h.2 g hg hc).2 h1
  · have := h.1; omega⟩⟩
/-- All numbers above c, below z. -/
def abv (c z : Nat) : List Nat := (List.range z).filter (fun g => decide (c < g))
theorem abv_mem {c z g : Nat} : g ∈ abv c z ↔ g < z ∧ c < g := by simp [abv]
def LP (W0 Y : World) (c y : Nat) (M : List Int) (S : List Nat) (X : World) : Prop := PlayP W0 c M (abv c (y + 3) ++ S) X ∧ St Y c y S X
theorem lp_good (W0 Y : World) (c y : Nat) (M : List Int) : Good (LP W0 Y c y M) := good_and (good_more (playP_good W0 c M) _) (st_good Y c y)
theorem st_blk {Y X : World} {c y g : Nat} {S : List Nat} {t : TypeId} {cs : Array Value} (h : St Y c y S X) (hb : Blk Y g t cs) (hg : g < y) (hc : g ≠ c) : Blk X g t cs := ((h.2 g hg hc).1).trans hb
theorem st_kept {Y X X' : World} {c y : Nat} {S : List Nat} (h : St Y c y S X) (hk : Kept (Far c (abv c (y + 3) ++ S)) X X') : St Y c y S X' := ⟨Nat.le_trans h.1 hk.size, fun g hg hc => ⟨(hk.block g (by have := h.1; omega) (fun hx => hx.2 (List.mem_append_left _ (abv_mem.2 ⟨by omega, by have := hx.1; omega⟩)))).trans (h.2 g hg hc).1, (h.2 g hg hc).2⟩⟩
set_option maxHeartbeats 4000000 in
set_option maxRecDepth 100000 in
theorem run29 (W0 Y : World) (c y b1 bi m cap i : Nat) (A : Option Addr) (R : Nat → Value) (L : Nat → List Act) (N ns : List Int) (h : How) (w : World) (hc : W0.heap.size ≤ c) (hcy : c < y) (hw : w.heap.size ≤ c) (hY : Below w.heap.size w Y) (hW0 : Below w.heap.size w W0)
    (hb1 : Blk Y b1 44 #[.slice A m cap]) (h1y : b1 < y) (h1c : b1 ≠ c) (hbi : Blk Y bi 3 #[.int .i64 i]) (hiy : bi < y) (hic : bi ≠ c) (hi : i < m) (hR : Rowy w (.slice A m cap) m 1 (fun i _ => R i)) (hA : AS w (R i) (L i)) (hok : AOk (L i)) (hN : N.length ≤ 1000)
    (hT : Told (cut (L i) 12) ns h) : Runs c 29 #[.pointer (some ⟨b1, 0, none⟩), .pointer (some ⟨bi, 0, none⟩), .pointer (some ⟨c, 0, none⟩)] (LP W0 Y c y N) (fun h' S X => h' = h ∧ LP W0 Y c y (N ++ ns) S X) := by
  rintro S X hSX ⟨hP, hSt⟩
  obtain ⟨A', cap', he, _, _, h3⟩ := hR
  cases he
  obtain ⟨b, off, rfl, hbl, hcc⟩ := h3 (by omega)
  have c1 : X.cell? ⟨b1, 0, none⟩ = some (.slice (some ⟨b, off, none⟩) m cap) := (st_blk hSt hb1 h1y h1c).cell 0
  have ci : X.cell? ⟨bi, 0, none⟩ = some (.int .i64 i) := (st_blk hSt hbi hiy hic).cell 0
  have hXb : X.heap[b]? = w.heap[b]? := (hSt.2 b (by omega) (by omega)).1.trans (hY.block b hbl)
  have eR : X.cell? ⟨b, off + i, none⟩ = some (R i) := by rw [World.cell?_of_block hXb]; simpa using hcc i 0 hi (by omega)
  obtain ⟨Ai, ci', hRi, _, _⟩ := as_form hA
  have hsh := fun X => short_any W0 X (R i) (L i) (hA.below hW0 (Nat.le_refl _))
  rw [hRi] at eR hsh
  obtain ⟨li, hli⟩ : ∃ li, (L i).length = li := ⟨_, rfl⟩
  rw [hli] at eR hsh
  have HSH := Lib.hid hsh
  have hz : y + 3 ≤ X.heap.size := hSt.1
  have hpl := fun A cap (hA' : AS W0 (.slice A (cut (L i) 12).length cap) (cut (L i) 12)) => play_any W0 c hc 100 (cut (L i) 12) A cap (abv c (y + 3) ++ S) X N ns h (by have := cut_len (L i) 12; omega) (by omega) hA' (cut_ok hok 12) hP (lt_app (fun s hs => by have := (abv_mem.1 hs).1; omega) hSX) (by have := cut_len (L i) 12; omega) hT
  have HPL := Lib.hid hpl
  have HST := Lib.hid hSt
  have hki : (i : Int) < (m : Int) := by omega
  have hk0 : 0 ≤ (i : Int) := by omega
  clear hP hSt h3 hcc hb1 hbi hA hRi hsh hpl hT hXb hY hW0
  go_enter Try.func29, Try.ntmps29
  go_wp2_with (go_at_call 28; refine (HSH.out _).mono ?_; rintro e w1 ⟨⟨A1, c1', rfl, hA1⟩, rfl⟩)
  refine (HPL.out A1 c1' hA1).mono ?_
  rintro e w' ⟨he, hk', hp'⟩
  have H1 := Lib.hid (hk'.far (fun s hs => List.mem_append_right _ hs) : Kept (Far c S) X w')
  have H2 := Lib.hid (st_kept HST.out hk')
  have H3 := Lib.hid hp'
  clear hk' hp'
  cases h with
  | fine =>
    obtain rfl := he
    go_wp2_with fail
    go_end0
    exact ⟨.fine, rfl, H1.out, rfl, H3.out, H2.out⟩
  | fault c' a' =>
    obtain ⟨l, rfl, hl⟩ := he
    exact ⟨rfl, .fault c' a', ⟨l, rfl, hl⟩, H1.out, rfl, H3.out, H2.out⟩
  | other =>
    obtain ⟨x, l, rfl, hl⟩ := he
    exact ⟨rfl, .other, ⟨x, l, rfl, hl⟩, H1.out, rfl, H3.out, H2.out⟩
/-- The rows' record: each row's notes and end, up to the last one that is played. -/
structure Rec (L : Nat → List Act) (m k : Nat) (nq : Nat → List Int) (hq : Nat → How) : Prop where
  told : ∀ j, j < k → Told (cut (L j) 12) (nq j) (hq j)
  fine : ∀ j, j + 1 < k → hq j = .fine
  last : lastq hq k ≠ .fine ∨ k = m
  le : k ≤ m
def PF (W0 Y : World) (c y k : Nat) (nq : Nat → List Int) (hq : Nat → How) (i : Nat) (S : List Nat) (X : World) : Prop := (i ≤ k ∧ ∀ j, j < i → hq j = .fine) ∧ LP W0 Y c y (cat nq i) S X
def QF (W0 Y : World) (c y k : Nat) (nq : Nat → List Int) (hq : Nat → How) (i : Nat) (h : How) (S : List Nat) (X : World) : Prop := (i < k ∧ h = hq i ∧ ∀ j, j < i → hq j = .fine) ∧ LP W0 Y c y (cat nq (i + 1)) S X
/-- What First leaves in the law's variables. -/
def outF (h : How) (k : Nat) : Int × Int × Int × Bool := match h with | .fault c a => ((k : Int) - 1, c, a, true) | .fine => (-1, 0, 0, false) | .other => (-2, 0, 0, false)
def P30 (W0 Y : World) (c y : Nat) (M : List Int) (o : Int × Int × Int × Bool) (S : List Nat) (X : World) : Prop :=
  LP W0 Y c y M S X ∧ (Blk X y 3 #[.int .i64 o.1] ∧ y ∉ S) ∧ (Blk X (y + 1) 23 #[.int .i64 o.2.1, .int .i64 o.2.2.1] ∧ y + 1 ∉ S) ∧ (Blk X (y + 2) 4 #[.bool o.2.2.2] ∧ y + 2 ∉ S)
theorem p30_good (W0 Y : World) (c y : Nat) (M : List Int) (o : Int × Int × Int × Bool) : Good (P30 W0 Y c y M o) := good_and (lp_good W0 Y c y M) (good_and (good_blk _ _ _) (good_and (good_blk _ _ _) (good_blk _ _ _)))
theorem cat_len {L : Nat → List Act} {k : Nat} {nq : Nat → List Int} {hq : Nat → How} (ht : ∀ j, j < k → Told (cut (L j) 12) (nq j) (hq j)) : ∀ i, i ≤ k → (cat nq i).length ≤ 36 * i
  | 0, _ => by simp [cat]
  | i + 1, hi => by
    have h1 := cat_len ht i (by omega)
    have h2 := told_len (ht i (by omega))
    have h3 := cut_len (L i) 12
    simp [cat]; omega
def fcap (b1 c : Nat) (b : Nat → Nat) (i : Nat) : Array Value := #[.pointer (some ⟨b1, 0, none⟩), .pointer (some ⟨b i, 0, none⟩), .pointer (some ⟨c, 0, none⟩)]
/-- The loop's relation. -/
def FirstIn2 (c : Nat) (P : Nat → List Nat → World → Prop) (S : List Nat) (w : World) (r0 k : Nat) (wr : World) : Prop :=
  P k (r0 :: S) wr ∧ Kept (Far c S) w wr ∧ Blk wr r0 23 #[.int .i64 0, .int .i64 0] ∧ w.heap.size ≤ r0

set_option maxHeartbeats 4000000 in
set_option maxRecDepth 100000 in
theorem first_good2 {c n : Nat} {fid : Nat → Nat} {cp : Nat → Array Value} {P : Nat → List Nat → World → Prop} {Q : Nat → How → List Nat → World → Prop} (hP : ∀ i, Good (P i)) (hQ : ∀ i h, Good (Q i h))
    (hen : ∀ i W, i < n → (callFunc (fid i) (cp i)).run Try.prog W = .ok (.enter (fid i) (cp i)) W) (hfine : ∀ i S W, Q i .fine S W → P (i + 1) S W) (hf : ∀ i, i < n → Runs c (fid i) (cp i) (P i) (Q i))
    (A : Option Addr) (cap : Nat) (S : List Nat) (w : World) (hS : ∀ s ∈ S, s < w.heap.size) (hp : P 0 S w) (hcap : n ≤ cap ∧ cap ≤ maxLen) (hRP : ∀ i S W, P i S W → Rowy W (.slice A n cap) n 1 (fun i _ => .func (.func (fid i)) #[] (cp i))) :
    Calls Try.prog 16 #[.slice A n cap] w fun e w' => Kept (Far c S) w w' ∧ FirstEnd n P Q S e w' := by
  have HP := Lib.hid hP
  have HS := Lib.hid hS
  have HQ := Lib.hid hQ
  have HE := Lib.hid hen
  have HF := Lib.hid hf
  have HN := Lib.hid hfine
  have HRP := Lib.hid hRP
  have h0 : FirstIn2 c P S w w.heap.size 0 (w.alloc (.cells #[.int .i64 0, .int .i64 0] 23)) :=
    ⟨(hP 0).two hp ((Kept.refl _ w).alloc _) [w.heap.size] (by simp), (Kept.refl _ w).alloc _, Blk.new _ _ _, Nat.le_refl _⟩
  have hcap : (n : Int) ≤ 9223372036854775807 := by
    obtain ⟨h1, h2⟩ := hcap
    unfold maxLen at h2
    omega
  clear hP hQ hen hf hfine hp hRP hS
  go_enter Try.func16, Try.ntmps16
  go_wp2
  go_loopw [11] (fun i wr => ∃ k : Nat, k ≤ n ∧ i = .int .i64 k ∧ FirstIn2 c P S w w.heap.size k wr) (fun i _ => n - (intOf i).toNat)
  case atStart => exact ⟨0, Nat.zero_le _, rfl, h0⟩
  case round =>
    obtain ⟨k, hk, rfl, hp, hkp, hb, hw⟩ := hrel
    have hr := HRP.out k _ wr hp
    have HB := Lib.hid hb
    have HK := Lib.hid hkp
    have HR := Lib.hid hr
    have HI := Lib.hid hp
    clear hb hkp hr hp h0 hw
    by_cases hlt : k < n
    · obtain ⟨A', cap', he, h1, h2, h3⟩ := HR.out
      cases he
      obtain ⟨b, off, rfl, hbl, hc⟩ := h3 (by omega)
      have e0 : wr.cell? ⟨b, off + k, none⟩ = some (.func (.func (fid k)) #[] (cp k)) := by simpa using hc k 0 hlt (by omega)
      have hki : (k : Int) < (n : Int) := by omega
      have hk0 : 0 ≤ (k : Int) := by omega
      have hen := HE.out k
      have HL : Hid (k < n) := hlt
      clear hc h3 h1 h2 hlt hk
      go_wp2_with fail
      refine (call_good (HP.out k) (HQ.out k) (fun W => HE.out k W HL.out) (HF.out k HL.out) _ _ (lt_app (l := [w.heap.size]) (fun s hs => by have h1 := HB.out.lt; simp at hs; omega) (fun s hs => by have h2 := HK.out.size; have := HS.out s hs; omega)) HI.out).mono ?_
      rintro e w1 ⟨h, hce, hk1, hq⟩
      have HK1 := Lib.hid hk1
      have HQ1 := Lib.hid hq
      have hb1 := hk1.blk HB.out (fun hx => hx.2 (by simp))
      have HB1 := Lib.hid hb1
      have hsz := hb1.lt
      have hkk := HK.out.trans (hk1.far (fun s hs => List.mem_cons_of_mem _ hs))
      have HKK := Lib.hid hkk
      clear hk1 hq hb1 e0 hkk
      cases h with
      | fine =>
        obtain rfl := hce
        go_wp2_with fail
        go_roundw
        case rel =>
          exact ⟨k + 1, HL.out, by go_num, (HP.out (k + 1)).two (HN.out k _ _ HQ1.out) ((Kept.refl _ w1).alloc _) [] (by simp), HKK.out.alloc _, HB1.out.alloc _, Nat.le_refl _⟩
        case measure => have := HL.out; simp [intOf]; omega
      | fault c' a' =>
        obtain rfl := hce
        go_upto_region 6 with fail
        refine wp_forget (fun W => Hid (Kept (Far c S) w W) ∧ Hid (Blk W w.heap.size 23 #[.int .i64 0, .int .i64 0]) ∧ Hid (Q k (.fault c' a') (w.heap.size :: S) W) ∧ Hid (Blk W w1.heap.size 23 #[.int .i64 c', .int .i64 a'])) ⟨Lib.hid (HKK.out.alloc _), Lib.hid (HB1.out.alloc _), Lib.hid ((HQ.out k _).two HQ1.out ((Kept.refl _ w1).alloc _) [] (by simp)), Lib.hid (Blk.new _ _ _)⟩ ?_
        rintro W ⟨HK2, HB2, HQ2, HX2⟩
        have hl1 := HB2.out.lt
        have hl2 := HX2.out.lt
        have hne : w.heap.size ≠ w1.heap.size := by omega
        clear HK1 HQ1 HB1 HKK HB HK HI HR hen hki hk0
        generalize w1.heap.size = gx at *
        have c0 : W.cell? ⟨w.heap.size, 0, none⟩ = some (.int .i64 0) := HB2.out.cell 0
        have c1 : W.cell? ⟨w.heap.size, 1, none⟩ = some (.int .i64 0) := HB2.out.cell 1
        have z0 : W.frozen? ⟨w.heap.size, 0, none⟩ = false := HB2.out.frozen 0
        have z1 : W.frozen? ⟨w.heap.size, 1, none⟩ = false := HB2.out.frozen 1
        have x0 : W.cell? ⟨gx, 0, none⟩ = some (.int .i64 c') := HX2.out.cell 0
        have x1 : W.cell? ⟨gx, 1, none⟩ = some (.int .i64 a') := HX2.out.cell 1
        go_region_held3 (fun w' => w'.cell? ⟨gx, 0, none⟩ = some (.int .i64 c') ∧ w'.cell? ⟨gx, 1, none⟩ = some (.int .i64 a')) (go_keep) (fail)
        all_goals go_wp2_with fail
        refine bodyPost_ret (results_tct rfl _ _ _ rfl (load23 (((HB2.out.put 0 _).put 1 _).drew))) rfl ⟨?_, .inr (.inl ⟨k, c', a', HL.out, rfl, ?_⟩)⟩
        · exact ((HK2.out.setCell (.inl (Nat.le_refl _)) _).setCell (.inl (Nat.le_refl _)) _).drew
        · exact (HQ.out k _).back [w.heap.size] HQ2.out (((Kept.refl _ W).setCell (.inr (by simp)) _).setCell (.inr (by simp)) _).drew
      | other =>
        obtain ⟨x, l, rfl, hl⟩ := hce
        exact ⟨rfl, HKK.out, .inr (.inr ⟨k, HL.out, ⟨x, l, rfl, hl⟩, (HQ.out k .other).back [w.heap.size] HQ1.out (Kept.refl _ w1)⟩)⟩
    · obtain rfl : k = n := by omega
      have c0 : wr.cell? ⟨w.heap.size, 0, none⟩ = some (.int .i64 0) := HB.out.cell 0
      have c1 : wr.cell? ⟨w.heap.size, 1, none⟩ = some (.int .i64 0) := HB.out.cell 1
      have z0 : wr.frozen? ⟨w.heap.size, 0, none⟩ = false := HB.out.frozen 0
      have z1 : wr.frozen? ⟨w.heap.size, 1, none⟩ = false := HB.out.frozen 1
      go_wp2_with fail
      refine bodyPost_ret (results_tct rfl _ _ _ rfl (load23 ((HB.out.put 0 _).put 1 _))) rfl ⟨?_, .inl ⟨rfl, ?_⟩⟩
      · exact (HK.out.setCell (.inl (Nat.le_refl _)) _).setCell (.inl (Nat.le_refl _)) _
      · exact (HP.out k).back [w.heap.size] HI.out (((Kept.refl _ wr).setCell (.inr (by simp)) _).setCell (.inr (by simp)) _)
/-- First, over the rows. -/
theorem first_rows (W0 Y : World) (c y b1 m cap k n9 : Nat) (A A9 : Option Addr) (b : Nat → Nat) (R : Nat → Value) (L : Nat → List Act) (nq : Nat → List Int) (hq : Nat → How) (w : World) (hrec : Rec L m k nq hq) (hm : m ≤ 8) (hc : W0.heap.size ≤ c) (hcy : c < y) (hw : w.heap.size ≤ c) (hY : Below w.heap.size w Y) (hW0 : Below w.heap.size w W0)
    (hb1 : Blk Y b1 44 #[.slice A m cap]) (h1y : b1 < y) (h1c : b1 ≠ c) (hb : ∀ i, i < m → Blk Y (b i) 3 #[.int .i64 i] ∧ b i < y ∧ b i ≠ c) (hR : Rowy w (.slice A m cap) m 1 (fun i _ => R i)) (hL : ∀ i, i < m → AS w (R i) (L i) ∧ AOk (L i))
    (h9 : Rowy Y (.slice A9 m n9) m 1 (fun i _ => .func (.func 29) #[] (fcap b1 c b i))) (h9b : ∀ a, A9 = some a → a.block < y ∧ a.block ≠ c)
    (S : List Nat) (X : World) (hSX : ∀ s ∈ S, s < X.heap.size) (hP : LP W0 Y c y [] S X) :
    Calls Try.prog 16 #[.slice A9 m n9] X fun e w' => Kept (Far c S) X w' ∧ St Y c y S w' ∧
      ((e = .returned (.tuple #[.int .i64 (-1), .agg #[.int .i64 0, .int .i64 0], .bool false]) ∧ lastq hq k = .fine ∧ LP W0 Y c y (cat nq k) S w') ∨
       (∃ c' a', lastq hq k = .fault c' a' ∧ e = .returned (.tuple #[.int .i64 ((k : Int) - 1), .agg #[.int .i64 c', .int .i64 a'], .bool true]) ∧ LP W0 Y c y (cat nq k) S w') ∨
       (lastq hq k = .other ∧ Ends .other e ∧ LP W0 Y c y (cat nq k) S w')) := by
  have hcap9 : m ≤ n9 ∧ n9 ≤ maxLen := by
    obtain ⟨A', cap', he, h1, h2, _⟩ := h9
    cases he
    exact ⟨h1, h2⟩
  have h9X : ∀ (i : Nat) (S : List Nat) (X : World), PF W0 Y c y k nq hq i S X → Rowy X (.slice A9 m n9) m 1 (fun i _ => .func (.func 29) #[] (fcap b1 c b i)) := fun i S X hP => by
    obtain ⟨A', cap', he, h1, h2, h3⟩ := h9
    cases he
    refine ⟨A9, n9, rfl, h1, h2, fun h0 => ?_⟩
    obtain ⟨bb, off, rfl, hbl, hcc⟩ := h3 h0
    have hy := h9b _ rfl
    have hst := hP.2.2
    exact ⟨bb, off, rfl, by have := hst.1; have h4 : bb < y := hy.1; omega, fun i j hi hj => (World.cell?_of_block (hst.2 bb hy.1 hy.2).1).trans (hcc i j hi hj)⟩
  refine (first_good2 (c := c) (n := m) (fid := fun _ => 29) (cp := fcap b1 c b) (P := PF W0 Y c y k nq hq) (Q := QF W0 Y c y k nq hq) (fun i => good_and (good_const _) (lp_good _ _ _ _ _)) (fun i h => good_and (good_const _) (lp_good _ _ _ _ _)) (by intro i X _; unfold fcap; simp [go_sem]) ?_ ?_ A9 n9 S X hSX ⟨⟨Nat.zero_le _, fun j hj => absurd hj (Nat.not_lt_zero _)⟩, hP⟩ hcap9 h9X).mono ?_
  · rintro i S X ⟨⟨h1, h2, h3⟩, h4⟩
    exact ⟨⟨h1, fun j hj => by
      by_cases e : j = i
      · rw [e]; exact h2.symm
      · exact h3 j (by omega)⟩, h4⟩
  · rintro i hi S X hSX ⟨⟨h1, h2⟩, h4⟩
    have hik : i < k := by
      rcases Nat.lt_or_ge i k with h | h
      · exact h
      · exfalso
        obtain rfl : i = k := by omega
        rcases hrec.last with h5 | h5
        · apply h5
          cases i with
          | zero => rfl
          | succ i => exact h2 i (by omega)
        · omega
    refine ((run29 W0 Y c y b1 (b i) m cap i A R L (cat nq i) (nq i) (hq i) w hc hcy hw hY hW0 hb1 h1y h1c (hb i hi).1 (hb i hi).2.1 (hb i hi).2.2 hi hR (hL i hi).1 (hL i hi).2 (by have := cat_len hrec.told i (by omega); omega) (hrec.told i hik)) S X hSX h4).mono ?_
    rintro e w' ⟨h, he, hk, rfl, h5⟩
    exact ⟨hq i, he, hk, ⟨hik, rfl, h2⟩, h5⟩
  · rintro e w' ⟨hk, he⟩
    refine ⟨hk, ?_⟩
    rcases he with ⟨rfl, ⟨hi, hf⟩, hl⟩ | ⟨i, c', a', hi, rfl, ⟨hik, hh, hf⟩, hl⟩ | ⟨i, hi, he, ⟨hik, hh, hf⟩, hl⟩
    · have hkm : k = m := by have := hrec.le; omega
      refine ⟨hl.2, .inl ⟨rfl, ?_, by rw [hkm]; exact hl⟩⟩
      cases k with
      | zero => rfl
      | succ k => exact hf k (by omega)
    · have hk1 : k = i + 1 := by
        rcases Nat.lt_or_ge (i + 1) k with h | h
        · have := hrec.fine i h; rw [← hh] at this; cases this
        · omega
      subst hk1
      exact ⟨hl.2, .inr (.inl ⟨c', a', hh.symm, by simp, hl⟩)⟩
    · have hk1 : k = i + 1 := by
        rcases Nat.lt_or_ge (i + 1) k with h | h
        · have := hrec.fine i h; rw [← hh] at this; cases this
        · omega
      subst hk1
      exact ⟨hl.2, .inr (.inr ⟨hh.symm, he, hl⟩)⟩
end Go.Proofs.Ytfkkhnceffhilaa
