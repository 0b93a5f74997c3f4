/- GuardNested. -/
import Derived.Test.YtfkkhnceffhilaaWit
import Derived.Laws.Entries
namespace Go.Proofs.Ytfkkhnceffhilaa
open Go.ChangeShapes Go.WideShapes Go.ChangeAt Go.RowKit
set_option linter.unusedVariables false
set_option linter.unusedSimpArgs false

theorem run_store_func (P : Program) (w : World) (a : Addr) (m : Mode) (fn : Fn) (first cap : Array Value) : (store a (.func fn first cap) m).run P w = stored P w a (.func fn first cap) m := run_store P w a _ m rfl
attribute [local go_sem] run_store_func
theorem good_blk (g : Nat) (t : TypeId) (cs : Array Value) : Good (fun S W => Blk W g t cs ∧ g ∉ S) := fun S S' W W' h hk hs =>
  ⟨hk.blk h.1 h.2, fun hg => by
    rcases hs g hg with h1 | h1
    · exact h.2 h1
    · have := h.1.lt; omega⟩
theorem good_and {P Q : List Nat → World → Prop} (hP : Good P) (hQ : Good Q) : Good (fun S W => P S W ∧ Q S W) := fun S S' W W' h hk hs => ⟨hP S S' W W' h.1 hk hs, hQ S S' W W' h.2 hk hs⟩
/-- The variables of the nest: the code, the place, the faults, the function itself. -/
def Nest (g : Nat) (code at' f : Int) (S : List Nat) (W : World) : Prop :=
  (Blk W g 3 #[.int .i64 code] ∧ g ∉ S) ∧ (Blk W (g + 1) 3 #[.int .i64 at'] ∧ g + 1 ∉ S) ∧ (Blk W (g + 3) 3 #[.int .i64 f] ∧ g + 3 ∉ S) ∧ (Blk W (g + 4) 50 #[.func (.func 35) #[] #[.pointer (some ⟨g, 0, none⟩), .pointer (some ⟨g + 1, 0, none⟩), .pointer (some ⟨g + 4, 0, none⟩), .pointer (some ⟨g + 3, 0, none⟩)]] ∧ g + 4 ∉ S)
theorem nest_good (g : Nat) (code at' f : Int) : Good (Nest g code at' f) := good_and (good_blk _ _ _) (good_and (good_blk _ _ _) (good_and (good_blk _ _ _) (good_blk _ _ _)))
theorem Nest.more {g : Nat} {code at' f : Int} {S : List Nat} {W : World} (h : Nest g code at' f S W) {b : Nat} (hb : g + 4 < b) : Nest g code at' f (b :: S) W := by
  obtain ⟨h0, h1, h3, h4⟩ := h
  refine ⟨⟨h0.1, ?_⟩, ⟨h1.1, ?_⟩, ⟨h3.1, ?_⟩, ⟨h4.1, ?_⟩⟩ <;> simp only [List.mem_cons, not_or]
  · exact ⟨by omega, h0.2⟩
  · exact ⟨by omega, h1.2⟩
  · exact ⟨by omega, h3.2⟩
  · exact ⟨by omega, h4.2⟩
theorem Nest.fewer {g : Nat} {code at' f : Int} {S : List Nat} {W : World} {b : Nat} (h : Nest g code at' f (b :: S) W) : Nest g code at' f S W := nest_good g code at' f (b :: S) S W W h (Kept.refl _ _) fun s hs => .inl (List.mem_cons_of_mem _ hs)
def inH (code at' : Int) (k : Nat) : How := if k = 0 then .fault code at' else .fine
def inF (k : Nat) : Int := if k = 0 then 0 else 1
set_option maxHeartbeats 4000000 in
set_option maxRecDepth 100000 in
theorem inner36 (g : Nat) (code at' : Int) (k kb : Nat) (S : List Nat) (X : World) (hk : k ≤ 100) (hkb : g + 4 < kb) (hN : Nest g code at' 0 S X) (hb : Blk X kb 3 #[.int .i64 ((k : Int) + 1)]) (hbS : kb ∉ S)
    (hSX : ∀ s ∈ S, s < X.heap.size) (ih : ∀ (S : List Nat) (W : World), k ≤ 100 → (∀ s ∈ S, s < W.heap.size) → Nest g code at' 0 S W →
      Calls Try.prog 35 #[.int .i64 k, .pointer (some ⟨g, 0, none⟩), .pointer (some ⟨g + 1, 0, none⟩), .pointer (some ⟨g + 4, 0, none⟩), .pointer (some ⟨g + 3, 0, none⟩)] W fun e w' => Ends (inH code at' k) e ∧ Kept (Far (g + 3) S) W w' ∧ Nest g code at' (inF k) S w') :
    Calls Try.prog 36 #[.pointer (some ⟨g + 4, 0, none⟩), .pointer (some ⟨kb, 0, none⟩)] X fun e w' => ∃ h, Ends h e ∧ Kept (Far (g + 3) S) X w' ∧ h = inH code at' k ∧ Nest g code at' (inF k) S w' ∧ Blk w' kb 3 #[.int .i64 ((k : Int) + 1)] ∧ kb ∉ S := by
  have c4 : X.cell? ⟨g + 4, 0, none⟩ = some (.func (.func 35) #[] #[.pointer (some ⟨g, 0, none⟩), .pointer (some ⟨g + 1, 0, none⟩), .pointer (some ⟨g + 4, 0, none⟩), .pointer (some ⟨g + 3, 0, none⟩)]) := hN.2.2.2.1.cell 0
  have cb : X.cell? ⟨kb, 0, none⟩ = some (.int .i64 ((k : Int) + 1)) := hb.cell 0
  have hk0 : (0 : Int) ≤ (k : Int) := by omega
  have hk9 : (k : Int) ≤ 100 := by omega
  have HN := Lib.hid hN
  have HB := Lib.hid hb
  have hI := ih (kb :: S) X hk (lt_app (l := [kb]) (fun s hs => by have := hb.lt; simp at hs; omega) hSX) (hN.more hkb)
  have HI := Lib.hid hI
  clear hN hb hI ih
  go_enter Try.func36, Try.ntmps36
  go_wp2_with fail
  refine HI.out.mono ?_
  rintro e w' ⟨he, hk', hN'⟩
  have hkS : Kept (Far (g + 3) S) X w' := hk'.far fun s hs => List.mem_cons_of_mem _ hs
  have hb' := hk'.blk HB.out (fun hx => hx.2 (by simp))
  cases k with
  | zero =>
    obtain ⟨l, rfl, hl⟩ := he
    exact ⟨rfl, .fault code at', ⟨l, rfl, hl⟩, hkS, rfl, hN'.fewer, hb', hbS⟩
  | succ k =>
    obtain rfl := he
    have H1 := Lib.hid hkS
    have H2 := Lib.hid hN'
    have H3 := Lib.hid hb'
    clear hkS hN' hb' hk'
    go_wp2_with fail
    go_end0
    exact ⟨.fine, rfl, H1.out, rfl, H2.out.fewer, H3.out, hbS⟩
set_option maxHeartbeats 4000000 in
set_option maxRecDepth 100000 in
theorem in_any (g : Nat) (code at' : Int) : ∀ (k : Nat) (S : List Nat) (W : World), k ≤ 100 → (∀ s ∈ S, s < W.heap.size) → Nest g code at' 0 S W →
    Calls Try.prog 35 #[.int .i64 k, .pointer (some ⟨g, 0, none⟩), .pointer (some ⟨g + 1, 0, none⟩), .pointer (some ⟨g + 4, 0, none⟩), .pointer (some ⟨g + 3, 0, none⟩)] W fun e w' => Ends (inH code at' k) e ∧ Kept (Far (g + 3) S) W w' ∧ Nest g code at' (inF k) S w'
  | 0, S, W, _, _, hN => by
    have HN := Lib.hid hN
    have c0 : W.cell? ⟨g, 0, none⟩ = some (.int .i64 code) := hN.1.1.cell 0
    have c1 : W.cell? ⟨g + 1, 0, none⟩ = some (.int .i64 at') := hN.2.1.1.cell 0
    have hl0 := hN.1.1.lt
    have hl1 := hN.2.1.1.lt
    clear hN
    go_enter Try.func35, Try.ntmps35
    go_wp2_with (go_at_call 12; refine (raise_any _ _ _).mono ?_; rintro e w' ⟨⟨l, rfl, hl⟩, rfl⟩)
    exact ⟨rfl, ⟨l, rfl, hl⟩, (Kept.refl _ W).alloc _, (nest_good g code at' 0).two HN.out ((Kept.refl _ W).alloc _) [] (by simp)⟩
  | k + 1, S, W, hk, hS, hN => by
    have hnS : W.heap.size ∉ S := fun h => Nat.lt_irrefl _ (hS _ h)
    have HSS := Lib.hid hS
    clear hS
    have ih := in_any g code at' k
    have HIH := Lib.hid ih
    clear ih
    have HN := Lib.hid hN
    have hl4 := hN.2.2.2.1.lt
    clear hN
    have hm := hmf
    have hk0 : (0 : Int) ≤ (k : Int) := by omega
    have hk1 : ¬ (((k + 1 : Nat) : Int) ≤ 0) := by omega
    have hk2 : ¬ ((k : Int) + 1 ≤ 0) := by omega
    go_enter Try.func35, Try.ntmps35
    go_wp2_with fail
    refine (call_good (c := g + 3) (P := fun S X => Nest g code at' 0 S X ∧ (Blk X W.heap.size 3 #[.int .i64 ((k : Int) + 1)] ∧ W.heap.size ∉ S)) (Q := fun h S X => (h = inH code at' k) ∧ Nest g code at' (inF k) S X ∧ (Blk X W.heap.size 3 #[.int .i64 ((k : Int) + 1)] ∧ W.heap.size ∉ S))
      (good_and (nest_good _ _ _ _) (good_blk _ _ _)) (fun h => good_and (good_const _) (good_and (nest_good _ _ _ _) (good_blk _ _ _))) (by intro X; simp [go_sem]) ?_ S _ (fun s hs => by have := HSS.out s hs; simp only [World.size_alloc]; omega) ⟨(nest_good g code at' 0).two HN.out ((Kept.refl _ W).alloc _) [] (by simp), Blk.new _ _ _, hnS⟩).mono ?_
    · rintro S' X hSX ⟨hN, hb, hbS⟩
      exact inner36 g code at' k W.heap.size S' X (by omega) hl4 hN hb hbS hSX HIH.out
    · rintro e w1 ⟨h, hce, hk1, rfl, hN1, hb1, _⟩
      have HN1 := Lib.hid hN1
      have HB1 := Lib.hid hb1
      have hK1 : Kept (Far (g + 3) S) W w1 := ((Kept.refl _ W).alloc _).then hk1 fun _ _ h => h
      have HK1 := Lib.hid hK1
      have hs1 := hK1.size
      have hbl := hb1.lt
      clear hk1 hN1 hb1 hK1
      cases k with
      | zero =>
        obtain rfl := hce
        have hN := HN1.out
        have c0 : w1.cell? ⟨g, 0, none⟩ = some (.int .i64 code) := hN.1.1.cell 0
        have c1 : w1.cell? ⟨g + 1, 0, none⟩ = some (.int .i64 at') := hN.2.1.1.cell 0
        have c3 : w1.cell? ⟨g + 3, 0, none⟩ = some (.int .i64 0) := hN.2.2.1.1.cell 0
        have z3 : w1.frozen? ⟨g + 3, 0, none⟩ = false := hN.2.2.1.1.frozen 0
        have cb : w1.cell? ⟨W.heap.size, 0, none⟩ = some (.int .i64 1) := HB1.out.cell 0
        have hl0 := hN.1.1.lt
        have hl1 := hN.2.1.1.lt
        have hl3 := hN.2.2.1.1.lt
        clear hN
        go_wp2_with fail
        go_end0
        have hN2 := HN1.out
        obtain ⟨h0, h1, h3, h4⟩ := hN2
        have e0 : (g : Nat) ≠ g + 3 := by omega
        have e1 : g + 1 ≠ g + 3 := by omega
        have e4 : g + 4 ≠ g + 3 := by omega
        refine ⟨rfl, (HK1.out.setCell (.inr ⟨Nat.le_refl _, h3.2⟩) _).alloc _, ⟨(h0.1.far e0 _).alloc _, h0.2⟩, ⟨(h1.1.far e1 _).alloc _, h1.2⟩, ⟨(h3.1.put 0 _).alloc _, h3.2⟩, ⟨(h4.1.far e4 _).alloc _, h4.2⟩⟩
      | succ k =>
        obtain rfl := hce
        go_wp2_with fail
        go_end0
        exact ⟨rfl, HK1.out.alloc _, (nest_good g code at' 1).two HN1.out ((Kept.refl _ w1).alloc _) [] (by simp)⟩
set_option maxHeartbeats 4000000 in
set_option maxRecDepth 100000 in
theorem outer37 (g : Nat) (code at' : Int) (n : Nat) (hn : n ≤ 60) (hn1 : 1 ≤ n) : Runs (g + 3) 37 #[.pointer (some ⟨g + 4, 0, none⟩), .pointer (some ⟨g + 2, 0, none⟩)]
    (fun S X => Nest g code at' 0 S X ∧ (Blk X (g + 2) 3 #[.int .i64 (n : Int)] ∧ g + 2 ∉ S)) (fun h S X => (h = .fine) ∧ Nest g code at' 1 S X) := by
  rintro S X hSX ⟨hN, hb, hbS⟩
  have c4 : X.cell? ⟨g + 4, 0, none⟩ = some (.func (.func 35) #[] #[.pointer (some ⟨g, 0, none⟩), .pointer (some ⟨g + 1, 0, none⟩), .pointer (some ⟨g + 4, 0, none⟩), .pointer (some ⟨g + 3, 0, none⟩)]) := hN.2.2.2.1.cell 0
  have cb : X.cell? ⟨g + 2, 0, none⟩ = some (.int .i64 (n : Int)) := hb.cell 0
  have hI := in_any g code at' n S X (by omega) hSX hN
  have h1 : inH code at' n = .fine := by unfold inH; rw [if_neg (by omega)]
  have h2 : inF n = 1 := by unfold inF; rw [if_neg (by omega)]
  rw [h1, h2] at hI
  have HI := Lib.hid hI
  clear hN hb hI h1 h2
  go_enter Try.func37, Try.ntmps37
  go_wp2_with fail
  refine HI.out.mono ?_
  rintro e w' ⟨he, hk', hN'⟩
  have H1 := Lib.hid hk'
  have H2 := Lib.hid hN'
  obtain rfl := he
  clear hk' hN'
  go_wp2_with fail
  go_end0
  exact ⟨.fine, rfl, H1.out, rfl, H2.out⟩
set_option maxHeartbeats 4000000 in
set_option maxRecDepth 100000 in
theorem nested_any (deep code at' : Int) (w : World) (h3 : -9223372036854775808 ≤ deep) (h4 : deep ≤ 9223372036854775807) :
    Calls Try.prog 7 #[.int .i64 deep, .int .i64 code, .int .i64 at'] w fun e w' => e = .returned (.bool true) ∧ Below w.heap.size w w' := by
  have hm := hmf
  obtain ⟨n, hn, h1, h2⟩ : ∃ n : Nat, wit deep 1 60 = (n : Int) ∧ 1 ≤ n ∧ n ≤ 60 := by
    have a := wit_lo deep 1 60 (by decide)
    have b := wit_hi deep 1 60 (by decide)
    exact ⟨(wit deep 1 60).toNat, by omega, by omega, by omega⟩
  have HN := Lib.hid hn
  clear hn
  go_enter Try.func7, Try.ntmps7
  go_upto_region 5 with (go_at_call 34; refine (wit_any _ _ _ _ (by decide) (by decide) (by decide) (by omega) (by omega)).mono ?_; rintro e w1 ⟨rfl, rfl⟩; rw [HN.out])
  refine wp_forget (fun X => Below w.heap.size w X ∧ Hid (Nest w.heap.size code at' 0 [] X ∧ (Blk X (w.heap.size + 2) 3 #[.int .i64 (n : Int)] ∧ w.heap.size + 2 ∉ ([] : List Nat)))) ⟨by go_grown, Lib.hid ⟨⟨⟨((((Blk.new _ _ _).alloc _).alloc _).alloc _).alloc _, by simp⟩, ⟨(((Blk.new_at (by simp only [World.size_alloc])).alloc _).alloc _).alloc _, by simp⟩, ⟨(Blk.new_at (by simp only [World.size_alloc])).alloc _, by simp⟩, ⟨Blk.new_at (by simp only [World.size_alloc]), by simp⟩⟩, ((Blk.new_at (by simp only [World.size_alloc])).alloc _).alloc _, by simp⟩⟩ ?_
  rintro X ⟨hB, HX⟩
  have hbs := hB.size
  go_wp2_with fail
  refine (caught_good (c := w.heap.size + 3) (good_and (nest_good w.heap.size code at' 0) (good_blk _ _ _)) (fun h => good_and (good_const _) (nest_good w.heap.size code at' 1)) (by intro X; simp [go_sem]) (outer37 w.heap.size code at' n h2 h1) [] X (by simp) HX.out).mono ?_
  rintro e w1 ⟨h, hce, hk, rfl, hN1⟩
  simp only [CaughtEnd, endV, num3] at hce
  subst hce
  have c3 : w1.cell? ⟨w.heap.size + 1 + 1 + 1, 0, none⟩ = some (.int .i64 1) := hN1.2.2.1.1.cell 0
  have hl3 : w.heap.size + 1 + 1 + 1 < w1.heap.size := hN1.2.2.1.1.lt
  have hB1 : Below w.heap.size w w1 := hB.trans (hk.below (fun _ _ hx => by have := hx.1; omega) hbs)
  have hs1 := hB1.size
  clear hk hN1 HX hB hbs
  go_wp2_with (go_at_call 3; refine (runs_any _).mono ?_; rintro e w2 ⟨rfl, hb2⟩; have hB2 : Below w.heap.size w w2 := Below.trans (by go_grown) (hb2.mono (by go_size)))
  go_ret
  exact ⟨rfl, hB2⟩
end Go.Proofs.Ytfkkhnceffhilaa
