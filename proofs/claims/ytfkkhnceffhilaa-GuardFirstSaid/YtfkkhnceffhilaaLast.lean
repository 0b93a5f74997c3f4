/- GuardLast. -/
import Derived.Test.YtfkkhnceffhilaaPlays
namespace Go.Proofs.Ytfkkhnceffhilaa
open Go.ChangeShapes Go.WideShapes Go.ChangeAt Go.RowKit
set_option linter.unusedVariables false
set_option linter.unusedSimpArgs false

set_option maxHeartbeats 4000000 in
theorem run32 (W0 : World) (c ba : Nat) (v : Value) (L : List Act) (N ns : List Int) (h : How) (hc : W0.heap.size ≤ c) (hb : Blk W0 ba 32 #[v]) (hA : AS W0 v L) (hok : AOk L) (hN : N.length ≤ 100) (hT : Told (cut L 12) ns h) : Runs c 32 #[.pointer (some ⟨ba, 0, none⟩), .pointer (some ⟨c, 0, none⟩)] (PlayP W0 c N) (fun h' S X => h' = h ∧ PlayP W0 c (N ++ ns) S X) := by
  intro S X hSX hP
  have hb' := hb.below hP.2.1 (by have := hb.lt; omega)
  have c0 : X.cell? ⟨ba, 0, none⟩ = some v := hb'.cell 0
  obtain ⟨A0, cap0, rfl, _, _⟩ := as_form hA
  have hsh := short_any W0 X _ L hA
  have HSH := Lib.hid hsh
  have hpl := fun A cap (hA' : AS W0 (.slice A (cut L 12).length cap) (cut L 12)) => play_any W0 c hc 100 (cut L 12) A cap S X N ns h (by have := cut_len L 12; omega) (by omega) hA' (cut_ok hok 12) hP hSX (by have := cut_len L 12; omega) hT
  have HPL := Lib.hid hpl
  clear hpl hsh hb' hb hA hT hP
  go_enter Try.func32, Try.ntmps32
  go_wp2_with (go_at_call 28; refine HSH.out.mono ?_; rintro e w1 ⟨⟨A, cap, rfl, hA'⟩, rfl⟩)
  refine (HPL.out A cap hA').mono ?_
  rintro e w' ⟨he, hk', hp'⟩
  have H1 := Lib.hid hk'
  have H3 := Lib.hid hp'
  clear hk' hp'
  cases h with
  | fine =>
    obtain rfl := he
    go_wp2_with fail
    go_end0
    exact ⟨.fine, rfl, H1.out, rfl, H3.out⟩
  | fault c' a' =>
    obtain ⟨l, rfl, hl⟩ := he
    exact ⟨rfl, .fault c' a', ⟨l, rfl, hl⟩, H1.out, rfl, H3.out⟩
  | other =>
    obtain ⟨x, l, rfl, hl⟩ := he
    exact ⟨rfl, .other, ⟨x, l, rfl, hl⟩, H1.out, rfl, H3.out⟩
set_option maxHeartbeats 4000000 in
theorem run33 (W0 : World) (c ba : Nat) (v : Value) (L : List Act) (N ns : List Int) (h : How) (hc : W0.heap.size ≤ c) (hb : Blk W0 ba 32 #[v]) (hA : AS W0 v L) (hok : AOk L) (hN : N.length ≤ 100) (hT : Told (cut L 12) ns h) : RunsD c 33 #[.pointer (some ⟨ba, 0, none⟩), .pointer (some ⟨c, 0, none⟩)] (PlayP W0 c N) (fun h' S X => h' = h ∧ PlayP W0 c (N ++ ns) S X) := by
  intro S X hSX hP u
  have hb' := hb.below hP.2.1 (by have := hb.lt; omega)
  have c0 : X.cell? ⟨ba, 0, none⟩ = some v := hb'.cell 0
  obtain ⟨A0, cap0, rfl, _, _⟩ := as_form hA
  have hsh := short_any W0 X _ L hA
  have HSH := Lib.hid hsh
  have hpl := fun A cap (hA' : AS W0 (.slice A (cut L 12).length cap) (cut L 12)) => play_any W0 c hc 100 (cut L 12) A cap S X N ns h (by have := cut_len L 12; omega) (by omega) hA' (cut_ok hok 12) hP hSX (by have := cut_len L 12; omega) hT
  have HPL := Lib.hid hpl
  clear hpl hsh hb' hb hA hT hP
  go_enter_d Try.func33, Try.ntmps33
  go_wp2_with (go_at_call 28; refine HSH.out.mono ?_; rintro e w1 ⟨⟨A, cap, rfl, hA'⟩, rfl⟩)
  refine (HPL.out A cap hA').mono ?_
  rintro e w' ⟨he, hk', hp'⟩
  have H1 := Lib.hid hk'
  have H3 := Lib.hid hp'
  clear hk' hp'
  cases h with
  | fine =>
    obtain rfl := he
    go_wp2_with fail
    go_end0
    exact ⟨.fine, rfl, H1.out, rfl, H3.out⟩
  | fault c' a' =>
    obtain ⟨l, rfl, hl⟩ := he
    exact ⟨rfl, .fault c' a', ⟨l, rfl, hl⟩, H1.out, rfl, H3.out⟩
  | other =>
    obtain ⟨x, l, rfl, hl⟩ := he
    exact ⟨rfl, .other, ⟨x, l, rfl, hl⟩, H1.out, rfl, H3.out⟩
/-- What stands in the law's variables behind Last. -/
def lastF (h : How) : Int × Int × Bool := match h with | .fault c a => (c, a, true) | _ => (0, 0, false)
def lastH (h : How) : How := match h with | .other => .other | _ => .fine
def LastP (W0 : World) (c : Nat) (M : List Int) (x y : Int) (b : Bool) (S : List Nat) (X : World) : Prop :=
  PlayP W0 c M ([c + 1, c + 2] ++ S) X ∧ (Blk X (c + 1) 23 #[.int .i64 x, .int .i64 y] ∧ c + 1 ∉ S) ∧ (Blk X (c + 2) 4 #[.bool b] ∧ c + 2 ∉ S)
theorem lastP_good (W0 : World) (c : Nat) (M : List Int) (x y : Int) (b : Bool) : Good (LastP W0 c M x y b) := good_and (good_more (playP_good W0 c M) _) (good_and (good_blk _ _ _) (good_blk _ _ _))
set_option maxHeartbeats 8000000 in
set_option maxRecDepth 100000 in
theorem run31 (W0 : World) (c b2 b3 : Nat) (va vb : Value) (La Lb : List Act) (na nb : List Int) (ha hb : How) (hc : W0.heap.size ≤ c) (hb2 : Blk W0 b2 32 #[va]) (hb3 : Blk W0 b3 32 #[vb]) (hA : AS W0 va La) (hB : AS W0 vb Lb) (hoka : AOk La) (hokb : AOk Lb)
    (hTa : Told (cut La 12) na ha) (hTb : Told (cut Lb 12) nb hb) :
    Runs c 31 #[.pointer (some ⟨b2, 0, none⟩), .pointer (some ⟨c, 0, none⟩), .pointer (some ⟨b3, 0, none⟩), .pointer (some ⟨c + 1, 0, none⟩), .pointer (some ⟨c + 2, 0, none⟩)]
      (LastP W0 c [] 0 0 false) (fun h' S X => h' = lastH (both ha hb) ∧ LastP W0 c (na ++ nb) (lastF (both ha hb)).1 (lastF (both ha hb)).2.1 (lastF (both ha hb)).2.2 S X) := by
  rintro S X hSX ⟨hP, ⟨hf, hfS⟩, ⟨hi, hiS⟩⟩
  have hm := hmf
  have hl := last_good (c := c) (playP_good W0 c []) (fun h => good_and (good_const _) (playP_good W0 c ([] ++ na))) (fun h h' => good_and (good_const (h = ha)) (good_and (good_const _) (playP_good W0 c ([] ++ na ++ nb)))) (by intro X; simp [go_sem]) (by intro X; simp [go_sem])
    (run32 W0 c b2 va La [] na ha hc hb2 hA hoka (by simp) hTa) (fun h S X hSX hq u => ((run33 W0 c b3 vb Lb ([] ++ na) nb hb hc hb3 hB hokb (by have h1 := told_len hTa; have h2 := cut_len La 12; simp; omega) hTb) S X hSX hq.2 u).mono fun e u' w' ⟨h1, h2, h3, h4, h5, h6⟩ => ⟨h1, h2, h3, h4, hq.1, h5, h6⟩)
    ([c + 1, c + 2] ++ S) X (lt_app (fun s hs => by have h1 := hf.lt; have h2 := hi.lt; simp at hs; omega) hSX) hP
  have HL := Lib.hid hl
  have HF := Lib.hid hf
  have HI := Lib.hid hi
  clear hl hf hi hP hb2 hb3 hA hB hoka hokb hTa hTb
  go_enter Try.func31, Try.ntmps31
  go_wp2_with fail
  refine HL.out.mono ?_
  rintro e w1 ⟨h, h', hce, hk, rfl, rfl, hp⟩
  have hf1 := hk.blk HF.out (fun hx => hx.2 (by simp))
  have hi1 := hk.blk HI.out (fun hx => hx.2 (by simp))
  have HF1 := Lib.hid hf1
  have HI1 := Lib.hid hi1
  have HK := Lib.hid (hk.far (fun s hs => List.mem_append_right _ hs) : Kept (Far c S) X w1)
  have HP := Lib.hid hp
  have f0 : w1.cell? ⟨c + 1, 0, none⟩ = some (.int .i64 0) := hf1.cell 0
  have f1 : w1.cell? ⟨c + 1, 1, none⟩ = some (.int .i64 0) := hf1.cell 1
  have i0 : w1.cell? ⟨c + 2, 0, none⟩ = some (.bool false) := hi1.cell 0
  have z0 : w1.frozen? ⟨c + 1, 0, none⟩ = false := hf1.frozen 0
  have z1 : w1.frozen? ⟨c + 1, 1, none⟩ = false := hf1.frozen 1
  have y0 : w1.frozen? ⟨c + 2, 0, none⟩ = false := hi1.frozen 0
  have hne : c + 1 ≠ c + 2 := by omega
  clear hf1 hi1 hk hp
  obtain ⟨hb, hhb⟩ : ∃ hb, both h h' = hb := ⟨_, rfl⟩
  rw [hhb] at hce
  have HHB := Lib.hid hhb
  clear hhb
  cases hb with
  | fine =>
    obtain rfl := hce
    go_wp2_with fail
    go_end0
    refine ⟨.fine, rfl, ?_, by rw [HHB.out]; rfl, ?_⟩
    · exact ((HK.out.setCell (.inr ⟨(by show c ≤ c + 1; omega), hfS⟩) _).setCell (.inr ⟨(by show c ≤ c + 1; omega), hfS⟩) _).setCell (.inr ⟨(by show c ≤ c + 2; omega), hiS⟩) _
    · rw [HHB.out]
      exact ⟨playP_good W0 c _ _ _ w1 _ (by have := HP.out; rwa [List.nil_append] at this) ((((Kept.refl _ w1).setCell (.inr (by simp)) _).setCell (.inr (by simp)) _).setCell (.inr (by simp)) _) (fun s hs => .inl hs), ⟨((HF1.out.put 0 _).put 1 _).far hne _, hfS⟩, ⟨((HI1.out.far hne.symm _).far hne.symm _).put 0 _, hiS⟩⟩
  | fault fc fa =>
    obtain rfl := hce
    go_wp2_with fail
    go_end0
    refine ⟨.fine, rfl, ?_, by rw [HHB.out]; rfl, ?_⟩
    · exact ((HK.out.setCell (.inr ⟨(by show c ≤ c + 1; omega), hfS⟩) _).setCell (.inr ⟨(by show c ≤ c + 1; omega), hfS⟩) _).setCell (.inr ⟨(by show c ≤ c + 2; omega), hiS⟩) _
    · rw [HHB.out]
      exact ⟨playP_good W0 c _ _ _ w1 _ (by have := HP.out; rwa [List.nil_append] at this) ((((Kept.refl _ w1).setCell (.inr (by simp)) _).setCell (.inr (by simp)) _).setCell (.inr (by simp)) _) (fun s hs => .inl hs), ⟨((HF1.out.put 0 _).put 1 _).far hne _, hfS⟩, ⟨((HI1.out.far hne.symm _).far hne.symm _).put 0 _, hiS⟩⟩
  | other =>
    obtain ⟨x, l, rfl, hl⟩ := hce
    exact ⟨rfl, .other, ⟨x, l, rfl, hl⟩, HK.out, by rw [HHB.out]; rfl, by rw [HHB.out]; exact ⟨by have := HP.out; rwa [List.nil_append] at this, ⟨HF1.out, hfS⟩, ⟨HI1.out, hiS⟩⟩⟩
end Go.Proofs.Ytfkkhnceffhilaa
