/- GuardFirst: the function that calls First. -/
import Derived.Test.YtfkkhnceffhilaaFirstM
namespace Go.Proofs.Ytfkkhnceffhilaa
open Go.ChangeShapes Go.WideShapes Go.ChangeAt Go.RowKit
set_option linter.unusedVariables false
set_option linter.unusedSimpArgs false

theorem st_more {Y X : World} {c y : Nat} {S : List Nat} (h : St Y c y S X) {T : List Nat} (hT : ∀ s ∈ T, y ≤ s) : St Y c y (T ++ S) X := ⟨h.1, fun g hg hc => ⟨(h.2 g hg hc).1, fun hx => by
  rcases List.mem_append.1 hx with h1 | h1
  · have := hT g h1; omega
  · exact (h.2 g hg hc).2 h1⟩⟩
set_option maxHeartbeats 8000000 in
set_option maxRecDepth 100000 in
theorem run30 (W0 Y : World) (c y b1 b9 m cap k n9 : Nat) (A A9 : Option Addr) (b : Nat → Nat) (R : Nat → Value) (L : Nat → List Act) (nq : Nat → List Int) (hq : Nat → How) (w : World) (hrec : Rec L m k nq hq) (hm : m ≤ 8) (hc : W0.heap.size ≤ c) (hcy : c < y) (hw : w.heap.size ≤ c) (hY : Below w.heap.size w Y) (hW0 : Below w.heap.size w W0)
    (hb1 : Blk Y b1 44 #[.slice A m cap]) (h1y : b1 < y) (h1c : b1 ≠ c) (hb : ∀ i, i < m → Blk Y (b i) 3 #[.int .i64 i] ∧ b i < y ∧ b i ≠ c) (hR : Rowy w (.slice A m cap) m 1 (fun i _ => R i)) (hL : ∀ i, i < m → AS w (R i) (L i) ∧ AOk (L i))
    (h9 : Rowy Y (.slice A9 m n9) m 1 (fun i _ => .func (.func 29) #[] (fcap b1 c b i))) (h9b : ∀ a, A9 = some a → a.block < y ∧ a.block ≠ c) (hb9 : Blk Y b9 46 #[.slice A9 m n9]) (h9y : b9 < y) (h9c : b9 ≠ c) :
    Runs c 30 #[.pointer (some ⟨b9, 0, none⟩), .pointer (some ⟨y, 0, none⟩), .pointer (some ⟨y + 1, 0, none⟩), .pointer (some ⟨y + 2, 0, none⟩)]
      (P30 W0 Y c y [] (-2, 0, 0, false)) (fun h' S X => h' = lastH (lastq hq k) ∧ P30 W0 Y c y (cat nq k) (outF (lastq hq k) k) S X) := by
  rintro S X hSX ⟨⟨hP, hSt⟩, ⟨hk0, hkS⟩, ⟨hf, hfS⟩, ⟨hi, hiS⟩⟩
  have c9 : X.cell? ⟨b9, 0, none⟩ = some (.slice A9 m n9) := (st_blk hSt hb9 h9y h9c).cell 0
  have hz : y + 3 ≤ X.heap.size := hSt.1
  have hfr := first_rows W0 Y c y b1 m cap k n9 A A9 b R L nq hq w hrec hm hc hcy hw hY hW0 hb1 h1y h1c hb hR hL h9 h9b ([y, y + 1, y + 2] ++ S) X (lt_app (fun s hs => by simp at hs; omega) hSX)
    ⟨playP_good W0 c [] _ _ X X hP (Kept.refl _ X) (fun s hs => .inl (by
      rcases List.mem_append.1 hs with h1 | h1
      · exact List.mem_append_left _ h1
      · rcases List.mem_append.1 h1 with h2 | h2
        · exact List.mem_append_left _ (abv_mem.2 (by simp at h2; omega))
        · exact List.mem_append_right _ h2)), st_more hSt (fun s hs => by simp at hs; omega)⟩
  obtain ⟨hl, hhl⟩ : ∃ hl, lastq hq k = hl := ⟨_, rfl⟩
  rw [hhl] at hfr ⊢
  have HFR := Lib.hid hfr
  have HK0 := Lib.hid hk0
  have HF := Lib.hid hf
  have HI := Lib.hid hi
  have hb9l : b9 < X.heap.size := by omega
  clear hfr hk0 hf hi hP hSt hb1 hb hR hL h9 h9b hb9 hY hW0
  go_enter Try.func30, Try.ntmps30
  go_wp2_with fail
  refine HFR.out.mono ?_
  rintro e w1 ⟨hk, hSt1, hor⟩
  have hk1 := hk.blk HK0.out (fun hx => hx.2 (by simp))
  have hf1 := hk.blk HF.out (fun hx => hx.2 (by simp))
  have hi1 := hk.blk HI.out (fun hx => hx.2 (by simp))
  have HK1 := Lib.hid hk1
  have HF1 := Lib.hid hf1
  have HI1 := Lib.hid hi1
  have HK := Lib.hid (hk.far (fun s hs => List.mem_append_right _ hs) : Kept (Far c S) X w1)
  have k0 : w1.cell? ⟨y, 0, none⟩ = some (.int .i64 (-2)) := hk1.cell 0
  have f0 : w1.cell? ⟨y + 1, 0, none⟩ = some (.int .i64 0) := hf1.cell 0
  have f1 : w1.cell? ⟨y + 1, 1, none⟩ = some (.int .i64 0) := hf1.cell 1
  have i0 : w1.cell? ⟨y + 2, 0, none⟩ = some (.bool false) := hi1.cell 0
  have x0 : w1.frozen? ⟨y, 0, none⟩ = false := hk1.frozen 0
  have z0 : w1.frozen? ⟨y + 1, 0, none⟩ = false := hf1.frozen 0
  have z1 : w1.frozen? ⟨y + 1, 1, none⟩ = false := hf1.frozen 1
  have y0 : w1.frozen? ⟨y + 2, 0, none⟩ = false := hi1.frozen 0
  have hn1 : y ≠ y + 1 := by omega
  have hn2 : y ≠ y + 2 := by omega
  have hne : y + 1 ≠ y + 2 := by omega
  clear hk1 hf1 hi1 hk
  have fin : ∀ (o1 o2 o3 : Int) (o4 : Bool), LP W0 Y c y (cat nq k) ([y, y + 1, y + 2] ++ S) w1 → Kept (Far c S) X ((((w1.setCell ⟨y, 0, none⟩ (.int .i64 o1)).setCell ⟨y + 1, 0, none⟩ (.int .i64 o2)).setCell ⟨y + 1, 1, none⟩ (.int .i64 o3)).setCell ⟨y + 2, 0, none⟩ (.bool o4)) ∧ P30 W0 Y c y (cat nq k) (o1, o2, o3, o4) S ((((w1.setCell ⟨y, 0, none⟩ (.int .i64 o1)).setCell ⟨y + 1, 0, none⟩ (.int .i64 o2)).setCell ⟨y + 1, 1, none⟩ (.int .i64 o3)).setCell ⟨y + 2, 0, none⟩ (.bool o4)) := fun o1 o2 o3 o4 hl => by
    refine ⟨(((HK.out.setCell (.inr ⟨by show c ≤ y; omega, hkS⟩) _).setCell (.inr ⟨by show c ≤ y + 1; omega, hfS⟩) _).setCell (.inr ⟨by show c ≤ y + 1; omega, hfS⟩) _).setCell (.inr ⟨by show c ≤ y + 2; omega, hiS⟩) _, ?_, ⟨((((HK1.out.put 0 _).far hn1 _).far hn1 _).far hn2 _), hkS⟩, ⟨(((HF1.out.far hn1.symm _).put 0 _).put 1 _).far hne _, hfS⟩, ⟨(((HI1.out.far hn2.symm _).far hne.symm _).far hne.symm _).put 0 _, hiS⟩⟩
    have := (lp_good W0 Y c y (cat nq k)).back [y, y + 1, y + 2] hl (((((Kept.refl _ w1).setCell (.inr (by simp)) (.int .i64 o1)).setCell (.inr (by simp)) (.int .i64 o2)).setCell (.inr (by simp)) (.int .i64 o3)).setCell (.inr (by simp)) (.bool o4) : Kept _ w1 ((((w1.setCell ⟨y, 0, none⟩ (.int .i64 o1)).setCell ⟨y + 1, 0, none⟩ (.int .i64 o2)).setCell ⟨y + 1, 1, none⟩ (.int .i64 o3)).setCell ⟨y + 2, 0, none⟩ (.bool o4)))
    exact this
  have FIN := Lib.hid fin
  clear fin HFR HK0 HF HI
  clear hhl hSt1
  rcases hor with ⟨rfl, rfl, hlp⟩ | ⟨c', a', rfl, rfl, hlp⟩ | ⟨rfl, he, hlp⟩
  · have h5 := FIN.out (-1) 0 0 false hlp
    have H5 := Lib.hid h5
    clear h5 hlp
    go_wp2_with fail
    go_end0
    exact ⟨.fine, rfl, H5.out.1, rfl, H5.out.2⟩
  · have h5 := FIN.out ((k : Int) - 1) c' a' true hlp
    have H5 := Lib.hid h5
    clear h5 hlp
    go_wp2_with fail
    go_end0
    exact ⟨.fine, rfl, H5.out.1, rfl, H5.out.2⟩
  · obtain ⟨x, l, rfl, hl⟩ := he
    exact ⟨rfl, .other, ⟨x, l, rfl, hl⟩, HK.out, rfl, (lp_good W0 Y c y (cat nq k)).back [y, y + 1, y + 2] hlp (Kept.refl _ w1), ⟨HK1.out, hkS⟩, ⟨HF1.out, hfS⟩, ⟨HI1.out, hiS⟩⟩
end Go.Proofs.Ytfkkhnceffhilaa
