/- Call and caught: whatever the function that they are handed does. -/
import Derived.Test.YtfkkhnceffhilaaGuard
namespace Go.Proofs.Ytfkkhnceffhilaa
open Go.ChangeShapes Go.WideShapes Go.ChangeAt Go.RowKit
set_option linter.unusedVariables false
set_option linter.unusedSimpArgs false

/-- How Call ends, by how its function ends. -/
def CallEnd : How → Ending → Prop
  | .fine, e => e = .returned (.tuple #[.agg #[.int .i64 0, .int .i64 0], .bool false])
  | .fault c a, e => e = .returned (.tuple #[.agg #[.int .i64 c, .int .i64 a], .bool true])
  | .other, e => Ends .other e
/-- An ending's three numbers. -/
def num3 : How → Int × Int × Int
  | .fine => (0, 0, 0)
  | .fault c a => (1, c, a)
  | .other => (2, 0, 0)
def endV (h : How) : Value := .agg #[.int .i64 (num3 h).1, .int .i64 (num3 h).2.1, .int .i64 (num3 h).2.2]
def CaughtEnd (h : How) (e : Ending) : Prop := e = .returned (.tuple #[endV h, .bool true])
/-- What a call of a function value with two new blocks beneath is known to do. -/
def Does (fid : Nat) (cap : Array Value) (W : World) (p : Nat) (t : TypeId) (cs : Array Value) (q : Nat) (u : TypeId) (ds : Array Value) (I : How → World → Prop) : Prop :=
  Calls Try.prog fid cap W fun e w' => ∃ h, Ends h e ∧ I h w' ∧ Blk w' p t cs ∧ Blk w' q u ds
theorem hmf (fn : Fn) (first cap : Array Value) (w : World) : (Instr.makeFunc fn first cap).run Try.prog w = .ok (.func fn first cap) w := rfl
theorem results_cc {P : Program} {w : World} {fn : Func} {p q : Tmp} {ty ty' : TypeId} (h : fn.results = #[.cell p ty, .cell q ty']) (tmps : Array Value) (u v : Value) (a b : Addr)
    (hp : tmps.getD p undef = .pointer (some a)) (hq : tmps.getD q undef = .pointer (some b)) (hu : (loadVar ty a).run P w = .ok u w) (hv : (loadVar ty' b).run P w = .ok v w) :
    (results fn tmps).run P w = .ok (.tuple #[u, v]) w := by
  have hp' : tmps[p]?.getD undef = .pointer (some a) := by simpa using hp
  have hq' : tmps[q]?.getD undef = .pointer (some b) := by simpa using hq
  simp [results, h, hp', hq', asAddr, hu, hv]
theorem load23 {w : World} {g : Nat} {x y : Value} (h : Blk w g 23 #[x, y]) : (loadVar 23 ⟨g, 0, none⟩).run Try.prog w = .ok (.agg #[x, y]) w :=
  run_loadVar_row w g 23 23 #[x, y] (0, 0) _ h Try.underlying23 rfl (by kernel_rfl)
theorem load4 {w : World} {g : Nat} {b : Bool} (h : Blk w g 4 #[.bool b]) : (loadVar 4 ⟨g, 0, none⟩).run Try.prog w = .ok (.bool b) w := by
  have c := h.cell 0
  simp at c
  simp [go_sem, c]
theorem load35 {w : World} {g : Nat} {x y z : Value} (h : Blk w g 35 #[x, y, z]) : (loadVar 35 ⟨g, 0, none⟩).run Try.prog w = .ok (.agg #[x, y, z]) w :=
  run_loadVar_row w g 35 35 #[x, y, z] (0, 0) _ h Try.underlying35 rfl (by kernel_rfl)

set_option maxHeartbeats 4000000 in
set_option maxRecDepth 100000 in
theorem call_any (fid : Nat) (cap : Array Value) (w : World) (hen : ∀ W, (callFunc fid cap).run Try.prog W = .ok (.enter fid cap) W) (I : How → World → Prop)
    (hf : Does fid cap ((w.alloc (.cells #[.int .i64 0, .int .i64 0] 23)).alloc (.cells #[.bool false] 4)) w.heap.size 23 #[.int .i64 0, .int .i64 0] (w.heap.size + 1) 4 #[.bool false] I) :
    Calls Try.prog 10 #[.func (.func fid) #[] cap] w fun e w' => ∃ h w1, I h w1 ∧ Kept (fun b => b = w.heap.size ∨ b = w.heap.size + 1) w1 w' ∧ CallEnd h e := by
  have hm := hmf
  have hne : w.heap.size ≠ w.heap.size + 1 := by omega
  unfold Does at hf
  go_enter_defers Try.func10, Try.ntmps10
  go_wp2_with fail
  refine hf.mono ?_
  rintro e w1 ⟨h, he, hI, hp, hq⟩
  have hpl := hp.lt
  have hql := hq.lt
  cases h with
  | fine =>
    obtain rfl := he
    have HI := Lib.hid hI
    have HP := Lib.hid hp
    have HQ := Lib.hid hq
    have c0 : w1.cell? ⟨w.heap.size, 0, none⟩ = some (.int .i64 0) := hp.cell 0
    have z0 : w1.frozen? ⟨w.heap.size, 0, none⟩ = false := hp.frozen 0
    have c1 : w1.cell? ⟨w.heap.size, 1, none⟩ = some (.int .i64 0) := hp.cell 1
    have z1 : w1.frozen? ⟨w.heap.size, 1, none⟩ = false := hp.frozen 1
    have d0 : w1.cell? ⟨w.heap.size + 1, 0, none⟩ = some (.bool false) := hq.cell 0
    have y0 : w1.frozen? ⟨w.heap.size + 1, 0, none⟩ = false := hq.frozen 0
    clear hI hp hq
    go_wp2_with fail
    refine leaves_cons (f := 39) (args := #[.pointer (some ⟨w.heap.size, 0, none⟩), .pointer (some ⟨w.heap.size + 1, 0, none⟩)]) (by simp) (by simp [go_sem]) ?_
    refine (catch_idle _ _ _).mono ?_
    rintro e u' w2 ⟨rfl, rfl, rfl⟩
    refine ⟨_, results_cc rfl _ _ _ _ _ rfl rfl (load23 ((((HP.out.put 0 _).put 1 _).far hne _))) (load4 ((((HQ.out.far hne.symm _).far hne.symm _).put 0 _))), .fine, w1, HI.out, ?_, rfl⟩
    exact ((((Kept.refl _ w1).setCell (.inr (.inl rfl)) _).setCell (.inr (.inl rfl)) _).setCell (.inr (.inr rfl)) _)
  | fault c a =>
    obtain ⟨l, rfl, hl⟩ := he
    refine leaves_cons (f := 39) (args := #[.pointer (some ⟨w.heap.size, 0, none⟩), .pointer (some ⟨w.heap.size + 1, 0, none⟩)]) (by simp) (by simp [go_sem]) ?_
    refine (catch_fault _ _ _ _ _ w1 c a l hp hq hne).mono ?_
    rintro e u' w2 ⟨rfl, rfl, hp2, hq2, hk⟩
    simp only [settle_yes hl]
    exact ⟨_, results_cc rfl _ _ _ _ _ rfl rfl (load23 hp2) (load4 hq2), .fault c a, w1, hI, hk, rfl⟩
  | other =>
    obtain ⟨x, l, rfl, hl⟩ := he
    refine leaves_cons (f := 39) (args := #[.pointer (some ⟨w.heap.size, 0, none⟩), .pointer (some ⟨w.heap.size + 1, 0, none⟩)]) (by simp) (by simp [go_sem]) ?_
    refine (catch_other _ _ w1 x l).mono ?_
    rintro e u' w2 ⟨rfl, rfl, hk⟩
    exact ⟨.other, w1, hI, hk, ⟨x, _, rfl, tail_cons hl⟩⟩

set_option maxHeartbeats 4000000 in
set_option maxRecDepth 100000 in
theorem caught_any (fid : Nat) (cap : Array Value) (w : World) (hen : ∀ W, (callFunc fid cap).run Try.prog W = .ok (.enter fid cap) W) (I : How → World → Prop)
    (hf : Does fid cap ((w.alloc (.cells #[.int .i64 0, .int .i64 0, .int .i64 0] 35)).alloc (.cells #[.bool false] 4)) w.heap.size 35 #[.int .i64 0, .int .i64 0, .int .i64 0] (w.heap.size + 1) 4 #[.bool false] I) :
    Calls Try.prog 24 #[.func (.func fid) #[] cap] w fun e w' => ∃ h w1, I h w1 ∧ Kept (fun b => b = w.heap.size ∨ b = w.heap.size + 1) w1 w' ∧ CaughtEnd h e := by
  have hm := hmf
  have hne : w.heap.size ≠ w.heap.size + 1 := by omega
  unfold Does at hf
  go_enter_defers Try.func24, Try.ntmps24
  go_wp2_with fail
  refine hf.mono ?_
  rintro e w1 ⟨h, he, hI, hp, hq⟩
  have hpl := hp.lt
  have hql := hq.lt
  cases h with
  | fine =>
    obtain rfl := he
    have HI := Lib.hid hI
    have HP := Lib.hid hp
    have HQ := Lib.hid hq
    have c0 : w1.cell? ⟨w.heap.size, 0, none⟩ = some (.int .i64 0) := hp.cell 0
    have z0 : w1.frozen? ⟨w.heap.size, 0, none⟩ = false := hp.frozen 0
    have c1 : w1.cell? ⟨w.heap.size, 1, none⟩ = some (.int .i64 0) := hp.cell 1
    have z1 : w1.frozen? ⟨w.heap.size, 1, none⟩ = false := hp.frozen 1
    have c2 : w1.cell? ⟨w.heap.size, 2, none⟩ = some (.int .i64 0) := hp.cell 2
    have z2 : w1.frozen? ⟨w.heap.size, 2, none⟩ = false := hp.frozen 2
    have d0 : w1.cell? ⟨w.heap.size + 1, 0, none⟩ = some (.bool false) := hq.cell 0
    have y0 : w1.frozen? ⟨w.heap.size + 1, 0, none⟩ = false := hq.frozen 0
    clear hI hp hq
    go_wp2_with fail
    refine leaves_cons (f := 41) (args := #[.pointer (some ⟨w.heap.size, 0, none⟩), .pointer (some ⟨w.heap.size + 1, 0, none⟩)]) (by simp) (by simp [go_sem]) ?_
    refine (note_idle _ _ _).mono ?_
    rintro e u' w2 ⟨rfl, rfl, hk⟩
    refine ⟨_, results_cc rfl _ _ _ _ _ rfl rfl (load35 (hk.blk (((((HP.out.put 0 _).put 1 _).put 2 _).far hne _)) (fun h => h))) (load4 (hk.blk ((((HQ.out.far hne.symm _).far hne.symm _).far hne.symm _).put 0 _) (fun h => h))), .fine, w1, HI.out, ?_, rfl⟩
    exact ((((((Kept.refl _ w1).setCell (.inr (.inl rfl)) _).setCell (.inr (.inl rfl)) _).setCell (.inr (.inl rfl)) _).setCell (.inr (.inr rfl)) _).then hk (fun _ _ h => h.elim))
  | fault c a =>
    obtain ⟨l, rfl, hl⟩ := he
    refine leaves_cons (f := 41) (args := #[.pointer (some ⟨w.heap.size, 0, none⟩), .pointer (some ⟨w.heap.size + 1, 0, none⟩)]) (by simp) (by simp [go_sem]) ?_
    refine (note_fault _ _ _ _ _ _ w1 c a l hp hq hne).mono ?_
    rintro e u' w2 ⟨rfl, rfl, hp2, hq2, hk⟩
    simp only [settle_yes hl]
    exact ⟨_, results_cc rfl _ _ _ _ _ rfl rfl (load35 hp2) (load4 hq2), .fault c a, w1, hI, hk, rfl⟩
  | other =>
    obtain ⟨x, l, rfl, hl⟩ := he
    refine leaves_cons (f := 41) (args := #[.pointer (some ⟨w.heap.size, 0, none⟩), .pointer (some ⟨w.heap.size + 1, 0, none⟩)]) (by simp) (by simp [go_sem]) ?_
    refine (note_other _ _ _ _ _ _ w1 x l hp hq hne).mono ?_
    rintro e u' w2 ⟨rfl, rfl, hp2, hq2, hk⟩
    simp only [settle_yes hl]
    exact ⟨_, results_cc rfl _ _ _ _ _ rfl rfl (load35 hp2) (load4 hq2), .other, w1, hI, hk, rfl⟩
end Go.Proofs.Ytfkkhnceffhilaa
