/- First: over functions that keep what is named. -/
import Derived.Test.YtfkkhnceffhilaaGuardD
import Derived.Deep.RegionHeld3
import Derived.Deep.DeepCutAuto
namespace Go.Proofs.Ytfkkhnceffhilaa
open Go.ChangeShapes Go.WideShapes Go.ChangeAt Go.RowKit
set_option linter.unusedVariables false
set_option linter.unusedSimpArgs false

theorem rowy_kept {X : Nat → Prop} {w w1 : World} {A : Option Addr} {n k cap C : Nat} {V : Nat → Nat → Value} (h : Rowy w (.slice A k cap) n C V) (hk : Kept X w w1) (hA : ∀ a, A = some a → ¬ X a.block) : Rowy w1 (.slice A k cap) n C V := by
  obtain ⟨A', cap', he, h1, h2, h3⟩ := h
  cases he
  refine ⟨A, cap, rfl, h1, h2, fun h0 => ?_⟩
  obtain ⟨b, off, rfl, hb, hc⟩ := h3 h0
  exact ⟨b, off, rfl, Nat.lt_of_lt_of_le hb hk.size, fun i j hi hj => (hk.cell hb (hA _ rfl)).trans (hc i j hi hj)⟩
theorem results_tct {P : Program} {w : World} {fn : Func} {p q r : Tmp} {ty : TypeId} (h : fn.results = #[.tmp q, .cell p ty, .tmp r]) (tmps : Array Value) (u : Value) (a : Addr)
    (hp : tmps.getD p undef = .pointer (some a)) (hu : (loadVar ty a).run P w = .ok u w) :
    (results fn tmps).run P w = .ok (.tuple #[tmps.getD q undef, u, tmps.getD r undef]) w := by
  have hp' : tmps[p]?.getD undef = .pointer (some a) := by simpa using hp
  simp [results, h, hp', asAddr, hu]
def FirstEnd (n : Nat) (P : Nat → List Nat → World → Prop) (Q : Nat → How → List Nat → World → Prop) (S : List Nat) (e : Ending) (w' : World) : Prop :=
  (e = .returned (.tuple #[.int .i64 (-1), .agg #[.int .i64 0, .int .i64 0], .bool false]) ∧ P n S w') ∨
  (∃ (i : Nat) (c a : Int), i < n ∧ e = .returned (.tuple #[.int .i64 i, .agg #[.int .i64 c, .int .i64 a], .bool true]) ∧ Q i (.fault c a) S w') ∨
  (∃ i : Nat, i < n ∧ Ends .other e ∧ Q i .other S w')
/-- The loop's relation. -/
def FirstIn (c : Nat) (P : Nat → List Nat → World → Prop) (S : List Nat) (w : World) (A : Option Addr) (n cap : Nat) (V : Nat → Nat → Value) (r0 k : Nat) (wr : World) : Prop :=
  P k (r0 :: S) wr ∧ Kept (Far c S) w wr ∧ Blk wr r0 23 #[.int .i64 0, .int .i64 0] ∧ Rowy wr (.slice A n cap) n 1 V ∧ w.heap.size ≤ r0

set_option maxHeartbeats 4000000 in
set_option maxRecDepth 100000 in
theorem first_good {c n : Nat} {fid : Nat → Nat} {cp : Nat → Array Value} {P : Nat → List Nat → World → Prop} {Q : Nat → How → List Nat → World → Prop} (hP : ∀ i, Good (P i)) (hQ : ∀ i h, Good (Q i h))
    (hen : ∀ i W, i < n → (callFunc (fid i) (cp i)).run Try.prog W = .ok (.enter (fid i) (cp i)) W) (hfine : ∀ i S W, Q i .fine S W → P (i + 1) S W) (hf : ∀ i, i < n → Runs c (fid i) (cp i) (P i) (Q i))
    (A : Option Addr) (cap : Nat) (S : List Nat) (w : World) (hS : ∀ s ∈ S, s < w.heap.size) (hp : P 0 S w) (hR : Rowy w (.slice A n cap) n 1 (fun i _ => .func (.func (fid i)) #[] (cp i))) (hA : ∀ a, A = some a → ¬ Far c S a.block) :
    Calls Try.prog 16 #[.slice A n cap] w fun e w' => Kept (Far c S) w w' ∧ FirstEnd n P Q S e w' := by
  have HP := Lib.hid hP
  have HS := Lib.hid hS
  have HQ := Lib.hid hQ
  have HE := Lib.hid hen
  have HF := Lib.hid hf
  have HN := Lib.hid hfine
  have HA := Lib.hid hA
  have h0 : FirstIn c P S w A n cap (fun i _ => .func (.func (fid i)) #[] (cp i)) w.heap.size 0 (w.alloc (.cells #[.int .i64 0, .int .i64 0] 23)) :=
    ⟨(hP 0).two hp ((Kept.refl _ w).alloc _) [w.heap.size] (by simp), (Kept.refl _ w).alloc _, Blk.new _ _ _, rowy_kept hR ((Kept.refl (fun _ => False) w).alloc _) (fun _ _ h => h), Nat.le_refl _⟩
  have hcap : (n : Int) ≤ 9223372036854775807 := by
    obtain ⟨A', cap', he, h1, h2, _⟩ := hR
    unfold maxLen at h2
    omega
  clear hP hQ hen hf hfine hA hp hR hS
  go_enter Try.func16, Try.ntmps16
  go_wp2
  go_loopw [11] (fun i wr => ∃ k : Nat, k ≤ n ∧ i = .int .i64 k ∧ FirstIn c P S w A n cap (fun i _ => .func (.func (fid i)) #[] (cp i)) w.heap.size k wr) (fun i _ => n - (intOf i).toNat)
  case atStart => exact ⟨0, Nat.zero_le _, rfl, h0⟩
  case round =>
    obtain ⟨k, hk, rfl, hp, hkp, hb, hr, hw⟩ := hrel
    have HB := Lib.hid hb
    have HK := Lib.hid hkp
    have HR := Lib.hid hr
    have HI := Lib.hid hp
    clear hb hkp hr hp h0 hw
    by_cases hlt : k < n
    · obtain ⟨A', cap', he, h1, h2, h3⟩ := HR.out
      cases he
      obtain ⟨b, off, rfl, hbl, hc⟩ := h3 (by omega)
      have e0 : wr.cell? ⟨b, off + k, none⟩ = some (.func (.func (fid k)) #[] (cp k)) := by simpa using hc k 0 hlt (by omega)
      have hki : (k : Int) < (n : Int) := by omega
      have hk0 : 0 ≤ (k : Int) := by omega
      have hen := HE.out k
      have HL : Hid (k < n) := hlt
      clear hc h3 h1 h2 hlt hk
      go_wp2_with fail
      refine (call_good (HP.out k) (HQ.out k) (fun W => HE.out k W HL.out) (HF.out k HL.out) _ _ (lt_app (l := [w.heap.size]) (fun s hs => by have h1 := HB.out.lt; simp at hs; omega) (fun s hs => by have h2 := HK.out.size; have := HS.out s hs; omega)) HI.out).mono ?_
      rintro e w1 ⟨h, hce, hk1, hq⟩
      have HK1 := Lib.hid hk1
      have HQ1 := Lib.hid hq
      have hb1 := hk1.blk HB.out (fun hx => hx.2 (by simp))
      have HB1 := Lib.hid hb1
      have hr1 := rowy_kept HR.out hk1 (fun a ha hx => HA.out a ha (far_sub (fun s hs => by simp [hs]) hx))
      have HR1 := Lib.hid hr1
      have hsz := hb1.lt
      have hkk := HK.out.trans (hk1.far (fun s hs => List.mem_cons_of_mem _ hs))
      have HKK := Lib.hid hkk
      clear hk1 hq hb1 hr1 e0 hkk
      cases h with
      | fine =>
        obtain rfl := hce
        go_wp2_with fail
        go_roundw
        case rel =>
          exact ⟨k + 1, HL.out, by go_num, (HP.out (k + 1)).two (HN.out k _ _ HQ1.out) ((Kept.refl _ w1).alloc _) [] (by simp), HKK.out.alloc _, HB1.out.alloc _, rowy_kept HR1.out ((Kept.refl (fun _ => False) w1).alloc _) (fun _ _ h => h), Nat.le_refl _⟩
        case measure => have := HL.out; simp [intOf]; omega
      | fault c' a' =>
        obtain rfl := hce
        go_upto_region 6 with fail
        refine wp_forget (fun W => Hid (Kept (Far c S) w W) ∧ Hid (Blk W w.heap.size 23 #[.int .i64 0, .int .i64 0]) ∧ Hid (Q k (.fault c' a') (w.heap.size :: S) W) ∧ Hid (Blk W w1.heap.size 23 #[.int .i64 c', .int .i64 a'])) ⟨Lib.hid (HKK.out.alloc _), Lib.hid (HB1.out.alloc _), Lib.hid ((HQ.out k _).two HQ1.out ((Kept.refl _ w1).alloc _) [] (by simp)), Lib.hid (Blk.new _ _ _)⟩ ?_
        rintro W ⟨HK2, HB2, HQ2, HX2⟩
        have hl1 := HB2.out.lt
        have hl2 := HX2.out.lt
        have hne : w.heap.size ≠ w1.heap.size := by omega
        clear HK1 HQ1 HB1 HR1 HKK HB HK HI HR hen hki hk0
        generalize w1.heap.size = gx at *
        have c0 : W.cell? ⟨w.heap.size, 0, none⟩ = some (.int .i64 0) := HB2.out.cell 0
        have c1 : W.cell? ⟨w.heap.size, 1, none⟩ = some (.int .i64 0) := HB2.out.cell 1
        have z0 : W.frozen? ⟨w.heap.size, 0, none⟩ = false := HB2.out.frozen 0
        have z1 : W.frozen? ⟨w.heap.size, 1, none⟩ = false := HB2.out.frozen 1
        have x0 : W.cell? ⟨gx, 0, none⟩ = some (.int .i64 c') := HX2.out.cell 0
        have x1 : W.cell? ⟨gx, 1, none⟩ = some (.int .i64 a') := HX2.out.cell 1
        go_region_held3 (fun w' => w'.cell? ⟨gx, 0, none⟩ = some (.int .i64 c') ∧ w'.cell? ⟨gx, 1, none⟩ = some (.int .i64 a')) (go_keep) (fail)
        all_goals go_wp2_with fail
        refine bodyPost_ret (results_tct rfl _ _ _ rfl (load23 (((HB2.out.put 0 _).put 1 _).drew))) rfl ⟨?_, .inr (.inl ⟨k, c', a', HL.out, rfl, ?_⟩)⟩
        · exact ((HK2.out.setCell (.inl (Nat.le_refl _)) _).setCell (.inl (Nat.le_refl _)) _).drew
        · exact (HQ.out k _).back [w.heap.size] HQ2.out (((Kept.refl _ W).setCell (.inr (by simp)) _).setCell (.inr (by simp)) _).drew
      | other =>
        obtain ⟨x, l, rfl, hl⟩ := hce
        exact ⟨rfl, HKK.out, .inr (.inr ⟨k, HL.out, ⟨x, l, rfl, hl⟩, (HQ.out k .other).back [w.heap.size] HQ1.out (Kept.refl _ w1)⟩)⟩
    · obtain rfl : k = n := by omega
      have c0 : wr.cell? ⟨w.heap.size, 0, none⟩ = some (.int .i64 0) := HB.out.cell 0
      have c1 : wr.cell? ⟨w.heap.size, 1, none⟩ = some (.int .i64 0) := HB.out.cell 1
      have z0 : wr.frozen? ⟨w.heap.size, 0, none⟩ = false := HB.out.frozen 0
      have z1 : wr.frozen? ⟨w.heap.size, 1, none⟩ = false := HB.out.frozen 1
      go_wp2_with fail
      refine bodyPost_ret (results_tct rfl _ _ _ rfl (load23 ((HB.out.put 0 _).put 1 _))) rfl ⟨?_, .inl ⟨rfl, ?_⟩⟩
      · exact (HK.out.setCell (.inl (Nat.le_refl _)) _).setCell (.inl (Nat.le_refl _)) _
      · exact (HP.out k).back [w.heap.size] HI.out (((Kept.refl _ wr).setCell (.inr (by simp)) _).setCell (.inr (by simp)) _)
end Go.Proofs.Ytfkkhnceffhilaa
