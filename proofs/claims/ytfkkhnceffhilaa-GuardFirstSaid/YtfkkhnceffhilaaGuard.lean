/- What Raise, Must, Call, Last and caught do. -/
import Derived.Test.YtfkkhnceffhilaaKept
import Derived.Defers
import Derived.Recover
namespace Go.Proofs.Ytfkkhnceffhilaa
open Go.ChangeShapes Go.WideShapes Go.ChangeAt Go.RowKit
set_option linter.unusedVariables false
set_option linter.unusedSimpArgs false

/-- How a call ends: it returns, a fault, another panic. -/
inductive How where
  | fine
  | fault (c a : Int)
  | other

/-- The value of a fault. -/
def fv (c a : Int) : Value := .iface 23 (.agg #[.int .i64 c, .int .i64 a])
/-- A panic's value that is no fault. -/
def Oth (v : Value) : Prop := ∃ x, v = .iface 10 x
def Tail (l : List PanicEntry) : Prop := ∀ x ∈ l, x.goexit = false
def Ends : How → Ending → Prop
  | .fine, e => e = .returned (.tuple #[])
  | .fault c a, e => ∃ l, e = .panicked ({ v := fv c a, recovered := false } :: l) ∧ Tail l
  | .other, e => ∃ x l, e = .panicked ({ v := .iface 10 x, recovered := false } :: l) ∧ Tail l
theorem tail_nil : Tail [] := fun x hx => by cases hx
theorem tail_cons {v : Value} {r : Bool} {l : List PanicEntry} (h : Tail l) : Tail ({ v := v, recovered := r } :: l) := fun x hx => by
  rcases List.mem_cons.1 hx with rfl | hx
  · rfl
  · exact h x hx
theorem tail_app {l m : List PanicEntry} (h : Tail l) (h' : Tail m) : Tail (l ++ m) := fun x hx => by
  rcases List.mem_append.1 hx with hx | hx
  · exact h x hx
  · exact h' x hx
theorem tail_drop {l : List PanicEntry} (h : Tail l) : l.dropWhile (!·.goexit) = [] := by
  induction l with
  | nil => rfl
  | cons x l ih =>
    have h1 : x.goexit = false := h x (by simp)
    rw [List.dropWhile_cons_of_pos (by simp [h1])]
    exact ih fun y hy => h y (by simp [hy])
theorem settle_yes {v : Value} {l : List PanicEntry} (h : Tail l) : settle (.panicking ({ v := v, recovered := true } :: l)) = .returning := by
  simp only [settle, tail_drop h]

theorem raise_any (c a : Int) (w : World) : Calls Try.prog 12 #[.int .i64 c, .int .i64 a] w fun e w' => Ends (.fault c a) e ∧ w = w' := by
  go_enter Try.func12, Try.ntmps12
  go_wp2
  exact ⟨rfl, ⟨[], rfl, tail_nil⟩, rfl⟩
theorem must_yes (c a : Int) (w : World) : Calls Try.prog 14 #[.bool true, .int .i64 c, .int .i64 a] w fun e w' => Ends .fine e ∧ w = w' := by
  go_enter Try.func14, Try.ntmps14
  go_wp2
  go_end0
  exact ⟨rfl, rfl⟩
theorem must_no (c a : Int) (w : World) : Calls Try.prog 14 #[.bool false, .int .i64 c, .int .i64 a] w fun e w' => Ends (.fault c a) e ∧ w = w' := by
  go_enter Try.func14, Try.ntmps14
  go_wp2_with (go_at_call 12; refine (raise_any c a _).mono ?_; rintro e w' ⟨⟨l, rfl, hl⟩, rfl⟩)
  exact ⟨rfl, ⟨l, rfl, hl⟩, rfl⟩
/-- A bool that must be. -/
def mustH (b : Bool) (c a : Int) : How := if b then .fine else .fault c a
theorem must_any (b : Bool) (c a : Int) (w : World) : Calls Try.prog 14 #[.bool b, .int .i64 c, .int .i64 a] w fun e w' => Ends (mustH b c a) e ∧ w = w' := by
  cases b
  · exact must_no c a w
  · exact must_yes c a w

theorem run_assert_yes (x : Value) (w : World) : (Instr.typeAssert (.iface 23 x) 20 23 true).run Try.prog w = .ok (.tuple #[x, .bool true]) w := by
  simp [Instr.typeAssert, go_sem, Try.underlying23]
theorem run_assert_no (x : Value) (w : World) : (Instr.typeAssert (.iface 10 x) 20 23 true).run Try.prog w = .ok (.tuple #[.agg #[.int .i64 0, .int .i64 0], .bool false]) w := by
  simp [Instr.typeAssert, go_sem, Try.underlying23]
theorem run_assert_nil (w : World) : (Instr.typeAssert .nilIface 20 23 true).run Try.prog w = .ok (.tuple #[.agg #[.int .i64 0, .int .i64 0], .bool false]) w := by
  simp [Instr.typeAssert, go_sem, Try.underlying23]

theorem catch_idle (p q : Addr) (w : World) :
    CallsD Try.prog 39 #[.pointer (some p), .pointer (some q)] .returning w fun e u' w' => e = .returned (.tuple #[]) ∧ u' = .returning ∧ w' = w := by
  refine callsD_of_wpS Try.func39 rfl fun c₀ cs hu => ?_
  apply wpS_seq
  apply wpS_region
  simp [wpOpsS, go_sem, recoverD, hu, Try.ntmps39, Exit.thenS]
  apply wpS_seq
  apply wpS_seq
  apply wpS_region
  simp [wpOpsS, go_sem, Exit.thenS]
  refine wpS_cond (t := true) (by simp [Act.eval, Array.replicate]) ?_
  simp only [if_true]
  refine wpS_of_wp (wp_ret ?_)
  cases c₀
  simp_all [bodyPostS, results, Try.results39, Exit.thenS]

section
variable (p q : Nat) (x0 x1 x2 : Value) (w : World)
set_option maxHeartbeats 4000000 in
set_option maxRecDepth 100000 in
theorem catch_fault (c a : Int) (older : List PanicEntry) (hp : Blk w p 23 #[x0, x1]) (hq : Blk w q 4 #[x2]) (hpq : p ≠ q) :
    CallsD Try.prog 39 #[.pointer (some ⟨p, 0, none⟩), .pointer (some ⟨q, 0, none⟩)] (.panicking ({ v := fv c a, recovered := false } :: older)) w fun e u' w' =>
      e = .returned (.tuple #[]) ∧ u' = .panicking ({ v := fv c a, recovered := true } :: older) ∧ Blk w' p 23 #[.int .i64 c, .int .i64 a] ∧ Blk w' q 4 #[.bool true] ∧ Kept (fun b => b = p ∨ b = q) w w' := by
  have p0 := hp.cell 0
  have p1 := hp.cell 1
  have q0 := hq.cell 0
  have pf0 := hp.frozen 0
  have pf1 := hp.frozen 1
  have qf0 := hq.frozen 0
  have hpl := hp.lt
  have hql := hq.lt
  simp at p0 p1 q0
  have hta := run_assert_yes
  refine callsD_of_wpS Try.func39 rfl fun c₀ cs hu => ?_
  apply wpS_seq
  apply wpS_region
  simp [wpOpsS, go_sem, recoverD, hu, Try.ntmps39, Exit.thenS, fv]
  refine wpS_of_wp ?_
  change Code.wp _ _ _ { tmps := #[.pointer (some ⟨p, 0, none⟩), .pointer (some ⟨q, 0, none⟩), .iface 23 (.agg #[.int .i64 c, .int .i64 a]), undef, undef, .iface 23 (.agg #[.int .i64 c, .int .i64 a]), undef, undef, undef, undef, undef, undef, undef, undef, undef, undef, undef], defers := [] } w
  go_wp2
  refine ⟨rfl, _, rfl, _, by simp [results, Try.results39], rfl, rfl, ?_, ?_, ?_⟩
  · exact (((hp.put 0 _).put 1 _).far hpq _).alloc _
  · exact (((hq.far (Ne.symm hpq) _).far (Ne.symm hpq) _).put 0 _).alloc _
  · exact (((((Kept.refl _ w).setCell (.inr (.inl rfl)) _).setCell (.inr (.inl rfl)) _).setCell (.inr (.inr rfl)) _).alloc _)
set_option maxHeartbeats 4000000 in
set_option maxRecDepth 100000 in
theorem catch_other (x : Value) (older : List PanicEntry) :
    CallsD Try.prog 39 #[.pointer (some ⟨p, 0, none⟩), .pointer (some ⟨q, 0, none⟩)] (.panicking ({ v := .iface 10 x, recovered := false } :: older)) w fun e u' w' =>
      e = .panicked [{ v := .iface 10 x, recovered := false }] ∧ u' = .panicking ({ v := .iface 10 x, recovered := true } :: older) ∧ Kept (fun b => b = p ∨ b = q) w w' := by
  have hta := run_assert_no
  refine callsD_of_wpS Try.func39 rfl fun c₀ cs hu => ?_
  apply wpS_seq
  apply wpS_region
  simp [wpOpsS, go_sem, recoverD, hu, Try.ntmps39, Exit.thenS]
  refine wpS_of_wp ?_
  change Code.wp _ _ _ { tmps := #[.pointer (some ⟨p, 0, none⟩), .pointer (some ⟨q, 0, none⟩), .iface 10 x, undef, undef, .iface 10 x, undef, undef, undef, undef, undef, undef, undef, undef, undef, undef, undef], defers := [] } w
  go_wp2
  refine ⟨rfl, _, rfl, rfl, rfl, ?_⟩
  exact ((Kept.refl _ w).alloc _)
end
section
variable (p q : Nat) (x0 x1 x2 x3 : Value) (w : World)
set_option maxHeartbeats 4000000 in
set_option maxRecDepth 100000 in
theorem note_idle :
    CallsD Try.prog 41 #[.pointer (some ⟨p, 0, none⟩), .pointer (some ⟨q, 0, none⟩)] .returning w fun e u' w' => e = .returned (.tuple #[]) ∧ u' = .returning ∧ Kept (fun _ => False) w w' := by
  have hta := run_assert_nil
  refine callsD_of_wpS Try.func41 rfl fun c₀ cs hu => ?_
  apply wpS_seq
  apply wpS_region
  simp [wpOpsS, go_sem, recoverD, hu, Try.ntmps41, Exit.thenS]
  refine wpS_of_wp ?_
  change Code.wp _ _ _ { tmps := #[.pointer (some ⟨p, 0, none⟩), .pointer (some ⟨q, 0, none⟩), .nilIface, undef, undef, .nilIface, undef, undef, undef, undef, undef, undef, undef, undef, undef, undef, undef], defers := [] } w
  go_wp2
  refine ⟨rfl, _, by cases c₀; simp_all, _, by simp [results, Try.results41], rfl, rfl, ?_⟩
  exact ((Kept.refl _ w).alloc _)
set_option maxHeartbeats 4000000 in
set_option maxRecDepth 100000 in
theorem note_fault (c a : Int) (older : List PanicEntry) (hp : Blk w p 35 #[x0, x1, x3]) (hq : Blk w q 4 #[x2]) (hpq : p ≠ q) :
    CallsD Try.prog 41 #[.pointer (some ⟨p, 0, none⟩), .pointer (some ⟨q, 0, none⟩)] (.panicking ({ v := fv c a, recovered := false } :: older)) w fun e u' w' =>
      e = .returned (.tuple #[]) ∧ u' = .panicking ({ v := fv c a, recovered := true } :: older) ∧ Blk w' p 35 #[.int .i64 1, .int .i64 c, .int .i64 a] ∧ Blk w' q 4 #[.bool true] ∧ Kept (fun b => b = p ∨ b = q) w w' := by
  have p0 := hp.cell 0
  have p1 := hp.cell 1
  have p2 := hp.cell 2
  have q0 := hq.cell 0
  have pf0 := hp.frozen 0
  have pf1 := hp.frozen 1
  have pf2 := hp.frozen 2
  have qf0 := hq.frozen 0
  have hpl := hp.lt
  have hql := hq.lt
  simp at p0 p1 p2 q0
  have hta := run_assert_yes
  refine callsD_of_wpS Try.func41 rfl fun c₀ cs hu => ?_
  apply wpS_seq
  apply wpS_region
  simp [wpOpsS, go_sem, recoverD, hu, Try.ntmps41, Exit.thenS, fv]
  refine wpS_of_wp ?_
  change Code.wp _ _ _ { tmps := #[.pointer (some ⟨p, 0, none⟩), .pointer (some ⟨q, 0, none⟩), .iface 23 (.agg #[.int .i64 c, .int .i64 a]), undef, undef, .iface 23 (.agg #[.int .i64 c, .int .i64 a]), undef, undef, undef, undef, undef, undef, undef, undef, undef, undef, undef], defers := [] } w
  go_wp2
  refine ⟨rfl, _, rfl, _, by simp [results, Try.results41], rfl, rfl, ?_, ?_, ?_⟩
  · exact ((((hp.put 0 _).put 1 _).put 2 _).far hpq _).alloc _
  · exact ((((hq.far (Ne.symm hpq) _).far (Ne.symm hpq) _).far (Ne.symm hpq) _).put 0 _).alloc _
  · exact ((((((Kept.refl _ w).setCell (.inr (.inl rfl)) _).setCell (.inr (.inl rfl)) _).setCell (.inr (.inl rfl)) _).setCell (.inr (.inr rfl)) _).alloc _)
set_option maxHeartbeats 4000000 in
set_option maxRecDepth 100000 in
theorem note_other (x : Value) (older : List PanicEntry) (hp : Blk w p 35 #[x0, x1, x3]) (hq : Blk w q 4 #[x2]) (hpq : p ≠ q) :
    CallsD Try.prog 41 #[.pointer (some ⟨p, 0, none⟩), .pointer (some ⟨q, 0, none⟩)] (.panicking ({ v := .iface 10 x, recovered := false } :: older)) w fun e u' w' =>
      e = .returned (.tuple #[]) ∧ u' = .panicking ({ v := .iface 10 x, recovered := true } :: older) ∧ Blk w' p 35 #[.int .i64 2, .int .i64 0, .int .i64 0] ∧ Blk w' q 4 #[.bool true] ∧ Kept (fun b => b = p ∨ b = q) w w' := by
  have p0 := hp.cell 0
  have p1 := hp.cell 1
  have p2 := hp.cell 2
  have q0 := hq.cell 0
  have pf0 := hp.frozen 0
  have pf1 := hp.frozen 1
  have pf2 := hp.frozen 2
  have qf0 := hq.frozen 0
  have hpl := hp.lt
  have hql := hq.lt
  simp at p0 p1 p2 q0
  have hta := run_assert_no
  refine callsD_of_wpS Try.func41 rfl fun c₀ cs hu => ?_
  apply wpS_seq
  apply wpS_region
  simp [wpOpsS, go_sem, recoverD, hu, Try.ntmps41, Exit.thenS]
  refine wpS_of_wp ?_
  change Code.wp _ _ _ { tmps := #[.pointer (some ⟨p, 0, none⟩), .pointer (some ⟨q, 0, none⟩), .iface 10 x, undef, undef, .iface 10 x, undef, undef, undef, undef, undef, undef, undef, undef, undef, undef, undef], defers := [] } w
  go_wp2
  refine ⟨rfl, _, rfl, _, by simp [results, Try.results41], rfl, rfl, ?_, ?_, ?_⟩
  · exact ((((hp.put 0 _).put 1 _).put 2 _).far hpq _).alloc _
  · exact ((((hq.far (Ne.symm hpq) _).far (Ne.symm hpq) _).far (Ne.symm hpq) _).put 0 _).alloc _
  · exact ((((((Kept.refl _ w).setCell (.inr (.inl rfl)) _).setCell (.inr (.inl rfl)) _).setCell (.inr (.inl rfl)) _).setCell (.inr (.inr rfl)) _).alloc _)
end
end Go.Proofs.Ytfkkhnceffhilaa
