import Derived.Test.YtpgfdoakehpnlaaGreatDoorAxJ
set_option linter.unusedVariables false
set_option linter.unusedSimpArgs false
open Go
namespace Go.AM
section
variable (C : Cx)
theorem dstP_fun (d : Option Nat) : (dstP d).run = fun e v k => k (putDst e d v) := by funext e v k; exact dstP_run ..
theorem opnF_fun (o : Operand) : (opnF o).run = fun e => opnd e o := by funext e; exact opnF_run ..
theorem slotG_fun (t : Nat) : (slotG t).run = fun e => e.get t := by funext e; exact slotG_run ..
theorem argsF_fun (l : List Operand) : (argsF l).run = fun k e => M.lift "call: args" (opnds e l) k := by funext k e; exact argsF_eq ..
theorem builtF_fun (b : Builtin) (ts : List TypeId) : (builtF C b ts).run = fun l => builtin C b ts l := by funext l; exact builtF_eq ..
theorem main1_eq (o : Oper) (call : Cll) (k : KE) (e : T AV) : (main1 C o).run call k e = execOp C call e o.op (fun v => k (putDst e o.dst v)) := by
  unfold main1
  rw [bC_run, dstP_fun]
  generalize o.dst = d
  generalize o.op = op
  cases op
  case move x => simp only [bC_run, opnF_fun]; rfl
  case assign x => simp only [bC_run, opnF_fun]; rfl
  case pick c a b =>
    simp only [bC_run, opnF_fun]
    funext nx H L
    show Option.rec (motive := fun _ => Ans) (.no "an empty slot") _ (opnd e c) = opPick e c a b (fun v => k (putDst e d v)) nx H L
    unfold opPick
    show _ = (M.lift "an empty slot" (opnd e c)).bind _ _ nx H L
    cases opnd e c with
    | none => rfl
    | some v => cases v <;> try rfl
                rename_i r; cases r <;> rfl
  case alloc t =>
    show (Option.rec (motive := fun _ => Cg (Cll → KE → KE)) _ _ (tzeroC C t)).run call k e = opAlloc C t (fun v => k (putDst e d v))
    unfold opAlloc
    cases tzeroC C t with
    | none => rfl
    | some z =>
      funext nx H L
      exact T.putC_eq ..
  case load t x =>
    simp only [bC_run, opnF_fun]
    funext nx H L
    show Option.rec (motive := fun _ => Ans) (.no "an empty slot") (fun v => (loadG C (aggN C t)).run v (fun u => k (putDst e d u)) nx H L) (opnd e x) = (M.lift "an empty slot" (opnd e x)).bind (fun a => (match a with
      | .ptr b off => load C t b off
      | _ => M.no "load: from what")) (fun v => k (putDst e d v)) nx H L
    cases opnd e x with
    | none => rfl
    | some v => show (loadG C (aggN C t)).run v (fun u => k (putDst e d u)) nx H L = _; rw [loadG_eq]; rfl
  case store t a x =>
    simp only [bC_run, opnF_fun]
    funext nx H L
    show Option.rec (motive := fun _ => Ans) (.no "an empty slot") (fun v => Option.rec (.no "an empty slot") (fun a => (storeF C (tsize C t)).run a v (fun u => k (putDst e d u)) nx H L) (opnd e a)) (opnd e x) = (M.lift "an empty slot" (opnd e x)).bind (fun x => (M.lift "an empty slot" (opnd e a)).bind fun a => (match a with
      | .ptr b off => store C t b off x
      | _ => M.no "store: where")) (fun v => k (putDst e d v)) nx H L
    cases opnd e x with
    | none => rfl
    | some v => 
      show Option.rec (motive := fun _ => Ans) (.no "an empty slot") (fun a => (storeF C (tsize C t)).run a v (fun u => k (putDst e d u)) nx H L) (opnd e a) = (M.lift "an empty slot" (opnd e a)).bind (fun a => (match a with
        | .ptr b off => store C t b off v
        | _ => M.no "store: where")) (fun v => k (putDst e d v)) nx H L
      cases opnd e a with
      | none => rfl
      | some a => show (storeF C (tsize C t)).run a v (fun u => k (putDst e d u)) nx H L = _; rw [storeF_eq]; rfl
  case nilCheck x =>
    simp only [bC_run, opnF_fun]
    funext nx H L
    show Option.rec (motive := fun _ => Ans) (.no "an empty slot") _ (opnd e x) = (M.lift "an empty slot" (opnd e x)).bind _ _ nx H L
    cases opnd e x with
    | none => rfl
    | some v => cases v <;> rfl
  case binOp op t x y u =>
    simp only [bC_run, opnF_fun]
    funext nx H L
    show Option.rec (motive := fun _ => Ans) (.no "an empty slot") (fun v => Option.rec (.no "an empty slot") (fun u => (binF C op t).run v u (fun r => k (putDst e d r)) nx H L) (opnd e y)) (opnd e x) = (M.lift "an empty slot" (opnd e x)).bind (fun x => (M.lift "an empty slot" (opnd e y)).bind fun y => binOp C op t x y) (fun v => k (putDst e d v)) nx H L
    simp only [binF_eq]
    cases opnd e x with
    | none => rfl
    | some v => cases opnd e y <;> rfl
  case convert s t x => 
    simp only [bC_run, opnF_fun]; rfl
  case fieldAddr s x f =>
    simp only [bC_run, opnF_fun]
    funext nx H L
    show Option.rec (motive := fun _ => Ans) (.no "an empty slot") (fun v => Option.rec (.no "fieldAddr") (fun u => k (putDst e d u) nx H L) ((faddrF (fieldOff C s f)).run v)) (opnd e x) = (M.lift "an empty slot" (opnd e x)).bind (fun x => M.lift "fieldAddr" (fieldAddr C s x f)) (fun v => k (putDst e d v)) nx H L
    simp only [faddrF_eq]
    cases opnd e x <;> rfl
  case indexAddr t x i =>
    simp only [bC_run, opnF_fun]
    funext nx H L
    show Option.rec (motive := fun _ => Ans) (.no "an empty slot") (fun v => Option.rec (.no "an empty slot") (fun i => Option.rec (.no "indexAddr") (fun u => k (putDst e d u) nx H L) ((iaddrD C t (desc C t) (tsize C)).run v i)) (opnd e i)) (opnd e x) = (M.lift "an empty slot" (opnd e x)).bind (fun x => (M.lift "an empty slot" (opnd e i)).bind fun i => M.lift "indexAddr" (indexAddr C t x i)) (fun v => k (putDst e d v)) nx H L
    simp only [iaddrD_eq]
    cases opnd e x with
    | none => rfl
    | some v => cases opnd e i <;> rfl
  case index t x i =>
    simp only [bC_run, opnF_fun]
    funext nx H L
    show Option.rec (motive := fun _ => Ans) (.no "an empty slot") (fun v => Option.rec (.no "an empty slot") (fun i => Option.rec (.no "index") (fun u => k (putDst e d u) nx H L) ((indexF C t (desc C t)).run v i)) (opnd e i)) (opnd e x) = (M.lift "an empty slot" (opnd e x)).bind (fun x => (M.lift "an empty slot" (opnd e i)).bind fun i => M.lift "index" (index C t x i)) (fun v => k (putDst e d v)) nx H L
    simp only [indexF_eq]
    cases opnd e x with
    | none => rfl
    | some v => cases opnd e i <;> rfl
  case extract t i =>
    simp only [bC_run, opnF_fun]
    funext nx H L
    show Option.rec (motive := fun _ => Ans) (.no "an empty slot") _ (opnd e t) = (M.lift "an empty slot" (opnd e t)).bind _ _ nx H L
    cases opnd e t with
    | none => rfl
    | some v => cases v <;> rfl
  case call c =>
    cases hc : c.callee with
    | value f =>
      cases f with
      | tmp t =>
        simp only [hc, bC_run, slotG_fun, argsF_fun]
        show M.lift "call: args" (opnds e c.args.toList) _ = opCall C call e c _
        unfold opCall
        rw [hc]
        show _ = (M.lift "call: args" (opnds e c.args.toList)).bind (fun args => (M.lift "an empty slot" (e.get t)).bind _) _
        funext nx H L
        cases opnds e c.args.toList with
        | none => rfl
        | some l =>
          show Option.rec (motive := fun _ => Ans) (.no "an empty slot") _ (e.get t) = (M.lift "an empty slot" (e.get t)).bind _ _ nx H L
          cases e.get t with
          | none => rfl
          | some v => cases v <;> rfl
      | const v => simp only [hc]
      | global g => simp only [hc]
      | func f =>
        simp only [hc, bC_run, argsF_fun]
        show M.lift "call: args" (opnds e c.args.toList) _ = opCall C call e c _
        unfold opCall
        rw [hc]
        funext nx H L
        show _ = (M.lift "call: args" (opnds e c.args.toList)).bind (fun args => call f ([] ++ (args ++ []))) _ nx H L
        simp only [List.nil_append, List.append_nil]
        rfl
    | invoke r m => simp only [hc]
    | builtin b =>
      simp only [hc, bC_run, argsF_fun, builtF_fun]
      show M.lift "call: args" (opnds e c.args.toList) _ = opCall C call e c _
      unfold opCall
      rw [hc]
      rfl
  all_goals rfl
theorem yldF_eq (all : List Oper) (g : Nat × Bool) (e : T AV) : (yldF all g).run e = yieldA all e g := by
  unfold yldF yieldA
  cases lget all g.1 with
  | none => rfl
  | some p =>
    show (Option.rec (motive := fun _ => Cg (T AV → Option Bool)) _ _ p.dst).run e = ob p.dst _
    cases p.dst with
    | none => rfl
    | some d =>
      simp only [bC_run, slotG_fun]
      show Option.rec (motive := fun _ => Option Bool) none _ (e.get d) = ob (e.get d) _
      cases e.get d with
      | none => rfl
      | some v => cases v <;> try rfl
                  rename_i b; obtain ⟨n, g⟩ := g; cases b <;> cases g <;> rfl
theorem opF_eq (all : List Oper) (o : Oper) (call : Cll) (k : KE) (e : T AV) : (opF C all o).run call k e = wantedA all e o.guard (execOp C call e o.op) (M.ret (.tup [])) (fun v => k (putDst e o.dst v)) := by
  unfold opF
  cases o.guard with
  | none => exact main1_eq ..
  | some g =>
    simp only [bC_run, dstP_fun]
    funext nx H L
    show Option.rec (motive := fun _ => Ans) (.no "guard") (fun w => Bool.rec (k (putDst e o.dst (.tup [])) nx H L) ((main1 C o).run call k e nx H L) w) ((yldF all g).run e) = (M.lift "guard" (yieldA all e g)).bind (fun w => bc w (execOp C call e o.op) (M.ret (.tup []))) (fun v => k (putDst e o.dst v)) nx H L
    rw [yldF_eq, main1_eq]
    cases yieldA all e g with
    | none => rfl
    | some w => cases w <;> rfl
theorem wantedA_split {α β : Type} (all : List Oper) (e : T AV) (g : Option (Nat × Bool)) (m : M α) (u : α) (f : α → M β) : wantedA all e g (m.bind f) (f u) = (wantedA all e g m (M.ret u)).bind f := by
  cases g with
  | none => rfl
  | some g =>
    funext k nx H L
    show (M.lift "guard" (yieldA all e g)).bind (fun w => bc w (m.bind f) (f u)) k nx H L = ((M.lift "guard" (yieldA all e g)).bind (fun w => bc w m (M.ret u))) (fun a => f a k) nx H L
    cases yieldA all e g with
    | none => rfl
    | some w => cases w <;> rfl
theorem opsF_eq (all : List Oper) : ∀ (l : List Oper) (call : Cll) (k : KE) (e : T AV), (opsF C all l).run call k e = execOps C call all l e k := by
  intro l
  induction l with
  | nil => intro call k e; rfl
  | cons o l ih =>
    intro call k e
    show (bC (opF C all o) fun F => bC (opsF C all l) fun I => (⟨fun call k => F call (I call k)⟩ : Cg (Cll → KE → KE))).run call k e = opsStep C call all o (execOps C call all l) e k
    rw [bC_run, bC_run]
    show (opF C all o).run call ((opsF C all l).run call k) e = _
    rw [opF_eq]
    unfold opsStep
    rw [wantedA_split]
    have : (opsF C all l).run call k = fun e => execOps C call all l e k := by funext e; exact ih ..
    rw [this]
    rfl
/-! ## regions that draw -/
theorem meets_nil (l : Log) : meets l [] = false := by
  unfold meets
  induction l with
  | nil => rfl
  | cons a l ih => simp only [List.any_cons, ih]; rfl
theorem ap1F_eq (b : Nat) : ∀ (k : Nat), (∀ A, (ap1F b k).run = some A → ∀ l (ms : List Log), ms.length = k → A l ms = apart1 b l ms k) ∧ ((ap1F b k).run = none → ∀ l (ms : List Log), ms.length = k → apart1 b l ms k = true) := by
  intro k
  induction k with
  | zero =>
    refine ⟨fun A h => (by cases h), fun _ l ms hm => ?_⟩
    rw [List.eq_nil_of_length_eq_zero hm]; rfl
  | succ k ih =>
    have e : (ap1F b (k + 1)).run = (Bool.rec (motive := fun _ => Cg (Option (Log → List Log → Bool)))
      ⟨some fun l ms => List.rec true (fun m ms' _ => Bool.rec (Option.rec true (fun I => I l ms') (ap1F b k).run) false (List.rec false (fun _ _ _ => meets l m) m)) ms⟩
      (Option.rec apN (fun I => ⟨some fun l ms => List.rec true (fun _ ms' _ => I l ms') ms⟩) (ap1F b k).run) (Nat.testBit b k)).run := bC_run (ap1F b k) _
    rw [e]
    cases hb : Nat.testBit b k with
    | false =>
      refine ⟨fun A h l ms hm => ?_, fun h => by cases h⟩
      cases h
      cases ms with
      | nil => cases hm
      | cons m ms =>
        have hm : ms.length = k := by simpa using hm
        have e2 : apart1 b l (m :: ms) (k + 1) = ((Nat.testBit b k || !(meets l m)) && apart1 b l ms k) := rfl
        rw [e2, hb]
        have e3 : (List.rec (motive := fun _ => Bool) false (fun _ _ _ => meets l m) m) = meets l m := by
          cases m with
          | nil => exact (meets_nil l).symm
          | cons _ _ => rfl
        show Bool.rec (motive := fun _ => Bool) (Option.rec true (fun I => I l ms) (ap1F b k).run) false (List.rec (motive := fun _ => Bool) false (fun _ _ _ => meets l m) m) = _
        rw [e3]
        have e4 : (Option.rec (motive := fun _ => Bool) true (fun I => I l ms) (ap1F b k).run) = apart1 b l ms k := by
          cases hr : (ap1F b k).run with
          | none => exact (ih.2 hr l ms hm).symm
          | some A => exact ih.1 A hr l ms hm
        rw [e4]
        cases meets l m <;> simp
    | true =>
      have e4 : ∀ l (m : Log) (ms : List Log), apart1 b l (m :: ms) (k + 1) = apart1 b l ms k := by
        intro l m ms
        have e2 : apart1 b l (m :: ms) (k + 1) = ((Nat.testBit b k || !(meets l m)) && apart1 b l ms k) := rfl
        rw [e2, hb]; simp
      cases hr : (ap1F b k).run with
      | none =>
        refine ⟨fun A h => (by cases h), fun _ l ms hm => ?_⟩
        cases ms with
        | nil => cases hm
        | cons m ms => rw [e4]; exact ih.2 hr l ms (by simpa using hm)
      | some I =>
        refine ⟨fun A h l ms hm => ?_, fun h => by cases h⟩
        cases h
        cases ms with
        | nil => cases hm
        | cons m ms => rw [e4]; exact ih.1 I hr l ms (by simpa using hm)
theorem apF_eq : ∀ (bs : List Nat) (n : Nat), bs.length = n → (∀ A, (apF bs n).run = some A → ∀ ls : List Log, ls.length = n → A ls = apartAll bs ls n) ∧ ((apF bs n).run = none → ∀ ls : List Log, ls.length = n → apartAll bs ls n = true) := by
  intro bs
  induction bs with
  | nil => intro n hn; exact ⟨fun A h => (by cases h), fun _ ls _ => by cases ls <;> rfl⟩
  | cons b bs ih =>
    intro n hn
    have hn : bs.length = n - 1 := by simp at hn; omega
    have hn0 : 0 < n := by rename_i h0; simp at h0; omega
    have e : (apF (b :: bs) n).run = (Option.rec (motive := fun _ => Cg (Option (List Log → Bool)))
      (Option.rec ⟨none⟩ (fun I => ⟨some fun ls => List.rec true (fun _ ls' _ => I ls') ls⟩) (apF bs (n - 1)).run)
      (fun A => ⟨some fun ls => List.rec true (fun l ls' _ => Bool.rec false (Option.rec true (fun I => I ls') (apF bs (n - 1)).run) (List.rec true (fun _ _ _ => A l ls') l)) ls⟩) (ap1F b (n - 1)).run).run := by
      exact (bC_run (apF bs (n - 1)) _).trans (bC_run (ap1F b (n - 1)) _)
    rw [e]
    have hI := ih (n - 1) hn
    have hA := ap1F_eq b (n - 1)
    have e2 : ∀ l ls, apartAll (b :: bs) (l :: ls) n = ((match l with
      | [] => true
      | l => apart1 b l ls (n - 1)) && apartAll bs ls (n - 1)) := fun _ _ => rfl
    have e4 : ∀ ls : List Log, ls.length = n - 1 → (Option.rec (motive := fun _ => Bool) true (fun I => I ls) (apF bs (n - 1)).run) = apartAll bs ls (n - 1) := by
      intro ls hl
      cases hr : (apF bs (n - 1)).run with
      | none => exact (hI.2 hr ls hl).symm
      | some A => exact hI.1 A hr ls hl
    cases hr : (ap1F b (n - 1)).run with
    | none =>
      have e5 : ∀ l (ls : List Log), ls.length = n - 1 → apartAll (b :: bs) (l :: ls) n = apartAll bs ls (n - 1) := by
        intro l ls hl
        rw [e2]
        cases l with
        | nil => rfl
        | cons x l => show (apart1 b (x :: l) ls (n - 1) && _) = _; rw [hA.2 hr (x :: l) ls hl]; rfl
      cases hq : (apF bs (n - 1)).run with
      | none =>
        refine ⟨fun A h => (by cases h), fun _ ls hm => ?_⟩
        cases ls with
        | nil => simp at hm; omega
        | cons l ls => rw [e5 l ls (by simp at hm; omega)]; exact hI.2 hq ls (by simp at hm; omega)
      | some I =>
        refine ⟨fun A h ls hm => ?_, fun h => by cases h⟩
        cases h
        cases ls with
        | nil => simp at hm; omega
        | cons l ls => rw [e5 l ls (by simp at hm; omega)]; exact hI.1 I hq ls (by simp at hm; omega)
    | some A =>
      refine ⟨fun A' h ls hm => ?_, fun h => by cases h⟩
      cases h
      cases ls with
      | nil => simp at hm; omega
      | cons l ls =>
        have hl : ls.length = n - 1 := by simp at hm; omega
        rw [e2]
        show Bool.rec (motive := fun _ => Bool) false (Option.rec true (fun I => I ls) (apF bs (n - 1)).run) (List.rec (motive := fun _ => Bool) true (fun _ _ _ => A l ls) l) = _
        rw [e4 ls hl]
        cases l with
        | nil => rfl
        | cons x l =>
          show Bool.rec (motive := fun _ => Bool) false (apartAll bs ls (n - 1)) (A (x :: l) ls) = (apart1 b (x :: l) ls (n - 1) && _)
          rw [hA.1 A hr (x :: l) ls hl]
          cases apart1 b (x :: l) ls (n - 1) <;> rfl
theorem before_len : ∀ (ops : List Oper) (acc : List Nat), (before ops acc).length = ops.length + acc.length := by
  intro ops
  induction ops with
  | nil => intro acc; simp [before]
  | cons o ops ih => intro acc; simp only [before, ih, List.length_cons]; omega
/-- what comes behind sees one log for each operation -/
theorem execOpsL_len (all : List Oper) (call : Cll) : ∀ (l : List Oper) (e : T AV) (ls : List Log) (k k' : KL), (∀ r : T AV × List Log, r.2.length = l.length + ls.length → k r = k' r) → execOpsL C call all l e ls k = execOpsL C call all l e ls k' := by
  intro l
  induction l with
  | nil => intro e ls k k' h; exact h (e, ls) (by simp)
  | cons o l ih =>
    intro e ls k k' h
    have hs : ∀ (e : T AV) (x : Log), execOpsL C call all l e (x :: ls) k = execOpsL C call all l e (x :: ls) k' := fun e x => ih e (x :: ls) k k' fun r hr => h r (by simp at hr ⊢; omega)
    show opsStepL C call all o (execOpsL C call all l) e ls k = opsStepL C call all o (execOpsL C call all l) e ls k'
    unfold opsStepL
    cases o.guard with
    | none =>
      funext nx H L
      show execOp C call e o.op (fun x nx H l1 => execOpsL C call all l (putDst e o.dst x) (l1 :: ls) k nx H (l1 ++ L)) nx H [] = execOp C call e o.op (fun x nx H l1 => execOpsL C call all l (putDst e o.dst x) (l1 :: ls) k' nx H (l1 ++ L)) nx H []
      simp only [hs]
    | some g =>
      funext nx H L
      show (M.lift "guard" (yieldA all e g)).bind (fun w => bc w (fun k nx H L => execOp C call e o.op (fun x nx H l1 => execOpsL C call all l (putDst e o.dst x) (l1 :: ls) k nx H (l1 ++ L)) nx H []) (execOpsL C call all l (putDst e o.dst (.tup [])) ([] :: ls))) k nx H L = (M.lift "guard" (yieldA all e g)).bind (fun w => bc w (fun k nx H L => execOp C call e o.op (fun x nx H l1 => execOpsL C call all l (putDst e o.dst x) (l1 :: ls) k nx H (l1 ++ L)) nx H []) (execOpsL C call all l (putDst e o.dst (.tup [])) ([] :: ls))) k' nx H L
      cases yieldA all e g with
      | none => rfl
      | some w =>
        cases w with
        | true =>
          show execOp C call e o.op (fun x nx H l1 => execOpsL C call all l (putDst e o.dst x) (l1 :: ls) k nx H (l1 ++ L)) nx H [] = execOp C call e o.op (fun x nx H l1 => execOpsL C call all l (putDst e o.dst x) (l1 :: ls) k' nx H (l1 ++ L)) nx H []
          simp only [hs]
        | false =>
          show execOpsL C call all l (putDst e o.dst (.tup [])) ([] :: ls) k nx H L = execOpsL C call all l (putDst e o.dst (.tup [])) ([] :: ls) k' nx H L
          rw [hs]
theorem opsLF_eq (all : List Oper) : ∀ (l : List Oper) (call : Cll) (k : KL) (e : T AV) (ls : List Log), (opsLF C all l).run call k e ls = execOpsL C call all l e ls k := by
  intro l
  induction l with
  | nil => intro call k e ls; rfl
  | cons o l ih =>
    intro call k e ls
    show (opLF C all o (opsLF C all l)).run call k e ls = opsStepL C call all o (execOpsL C call all l) e ls k
    have hI : (opsLF C all l).run = fun call k e ls => execOpsL C call all l e ls k := by funext call k e ls; exact ih ..
    unfold opLF opsStepL
    rw [bC_run, bC_run, hI]
    cases o.guard with
    | none =>
      funext nx H L
      show (main1 C o).run call (fun e' nx H l => execOpsL C call all _ e' (l :: ls) k nx H (l ++ L)) e nx H [] = execOp C call e o.op (fun x nx H l1 => execOpsL C call all _ (putDst e o.dst x) (l1 :: ls) k nx H (l1 ++ L)) nx H []
      rw [main1_eq]
    | some g =>
      simp only [bC_run, dstP_fun]
      funext nx H L
      show Option.rec (motive := fun _ => Ans) (.no "guard") (fun w => Bool.rec (execOpsL C call all l (putDst e o.dst (.tup [])) ([] :: ls) k nx H L) ((main1 C o).run call (fun e' nx H l1 => execOpsL C call all l e' (l1 :: ls) k nx H (l1 ++ L)) e nx H []) w) ((yldF all g).run e) =
        (M.lift "guard" (yieldA all e g)).bind (fun w => bc w (fun k nx H L => execOp C call e o.op (fun x nx H l1 => execOpsL C call all l (putDst e o.dst x) (l1 :: ls) k nx H (l1 ++ L)) nx H []) (execOpsL C call all l (putDst e o.dst (.tup [])) ([] :: ls))) k nx H L
      rw [yldF_eq, main1_eq]
      cases yieldA all e g with
      | none => rfl
      | some w => cases w <;> rfl
theorem regF_eq (ops : List Oper) (d : Bool) (call : Cll) (k : KE) (e : T AV) : (regF C ops d).run call k e = exRegion C call ops d e (fun r => k r.2) := by
  cases d with
  | false => exact opsF_eq C ops ops call k e
  | true =>
    show (bC (opsLF C ops ops) fun F => bC (apF (before ops []) ops.length) fun A => (Option.rec ⟨fun call k e => F call (fun r => k r.1) e []⟩ (fun A => ⟨fun call k e => F call (fun r => Bool.rec (fun _ _ _ => .no "a region whose operations meet") (k r.1) (A r.2)) e []⟩) A : Cg (Cll → KE → KE))).run call k e = execOpsL C call ops ops e [] (fun r => (bc (apartAll (before ops []) r.2 r.2.length) (M.ret (X.nrm, r.1)) (M.no "a region whose operations meet") : M (X × T AV)) (fun r => k r.2))
    have hI : (opsLF C ops ops).run = fun call k e ls => execOpsL C call ops ops e ls k := by funext call k e ls; exact opsLF_eq ..
    have hb : (before ops []).length = ops.length := by rw [before_len]; simp
    have hA := apF_eq (before ops []) ops.length hb
    rw [bC_run, bC_run, hI]
    cases hr : (apF (before ops []) ops.length).run with
    | none =>
      refine execOpsL_len C ops call ops e [] _ _ fun r hl => ?_
      have hl : r.2.length = ops.length := by simpa using hl
      rw [hl, hA.2 hr r.2 hl]; rfl
    | some A =>
      refine execOpsL_len C ops call ops e [] _ _ fun r hl => ?_
      have hl : r.2.length = ops.length := by simpa using hl
      show Bool.rec (motive := fun _ => R) (fun _ _ _ => .no "a region whose operations meet") (k r.1) (A r.2) = _
      rw [hA.1 A hr r.2 hl, hl]
      cases apartAll (before ops []) r.2 ops.length <;> rfl
end
end Go.AM
set_option linter.unusedVariables false
open Go
namespace Go.AM
section
variable (C : Cx)
/-- three ways out as one -/
noncomputable def ways (kn : KE) (kx : Nat → KE) (kr : KE) (r : X × T AV) : R := X.rec (kn r.2) (fun i => kx i r.2) (kr r.2) r.1
theorem codeF_eq (call : Cll) : ∀ (c : Code) (n : Nat) (kn : KE) (kx : Nat → KE) (kr : KE) (e : T AV), (codeF C c).run call n kn kx kr e = exec C call n c e (ways kn kx kr) := by
  intro c
  induction c with
  | skip => intro n kn kx kr e; cases n <;> rfl
  | label l => intro n kn kx kr e; cases n <;> rfl
  | exit id => intro n kn kx kr e; cases n <;> rfl
  | ret => intro n kn kx kr e; cases n <;> rfl
  | rangeFunc f ps x y => intro n kn kx kr e; cases n <;> rfl
  | scope c => intro n kn kx kr e; cases n <;> rfl
  | goto l => intro n kn kx kr e; cases n <;> rfl
  | refuse s => intro n kn kx kr e; cases n <;> rfl
  | region id ops d =>
    intro n kn kx kr e
    show (bC (regF C ops.toList d) fun F => (⟨fun call n kn _ _ e nx H L => Nat.rec (.no "fuel") (fun _ _ => F call kn e nx H L) n⟩ : Cg CC)).run call n kn kx kr e = _
    rw [bC_run]
    cases n with
    | zero => rfl
    | succ n =>
      show (regF C ops.toList d).run call kn e = exRegion C call ops.toList d e (ways kn kx kr)
      rw [regF_eq]
      cases d with
      | false => rfl
      | true =>
        show execOpsL C call _ _ e [] _ = execOpsL C call _ _ e [] _
        congr 1
        funext r
        show (bc (apartAll (before ops.toList []) r.2 r.2.length) (M.ret (X.nrm, r.1)) (M.no "a region whose operations meet") : M (X × T AV)) (fun r => kn r.2) = (bc (apartAll (before ops.toList []) r.2 r.2.length) (M.ret (X.nrm, r.1)) (M.no "a region whose operations meet") : M (X × T AV)) (ways kn kx kr)
        cases apartAll (before ops.toList []) r.2 r.2.length <;> rfl
  | seq a b iha ihb =>
    intro n kn kx kr e
    show (bC (codeF C a) fun A => bC (codeF C b) fun B => (⟨fun call n kn kx kr e nx H L => Nat.rec (.no "fuel") (fun m _ => A call m (B call m kn kx kr) kx kr e nx H L) n⟩ : Cg CC)).run call n kn kx kr e = _
    rw [bC_run, bC_run]
    cases n with
    | zero => rfl
    | succ n =>
      show (codeF C a).run call n ((codeF C b).run call n kn kx kr) kx kr e = exSeq (exec C call n) e a b (ways kn kx kr)
      rw [iha]
      show exec C call n a e _ = exec C call n a e _
      congr 1
      funext r
      obtain ⟨x, e'⟩ := r
      cases x with
      | nrm => exact ihb ..
      | ext i => rfl
      | ret => rfl
  | cond c a b iha ihb =>
    intro n kn kx kr e
    show (bC (opnF c) fun X => bC (codeF C a) fun A => bC (codeF C b) fun B => (⟨fun call n kn kx kr e nx H L => Nat.rec (.no "fuel") (fun m _ => Option.rec (.no "an empty slot") (fun v => Option.rec (.no "cond") (fun w => Bool.rec (B call m kn kx kr e nx H L) (A call m kn kx kr e nx H L) w) (asBool v)) (X e)) n⟩ : Cg CC)).run call n kn kx kr e = _
    rw [bC_run, bC_run, bC_run]
    cases n with
    | zero => rfl
    | succ n =>
      funext nx H L
      show Option.rec (motive := fun _ => Ans) (.no "an empty slot") (fun v => Option.rec (.no "cond") (fun w => Bool.rec ((codeF C b).run call n kn kx kr e nx H L) ((codeF C a).run call n kn kx kr e nx H L) w) (asBool v)) ((opnF c).run e) = (M.lift "an empty slot" (opnd e c)).bind (fun v => (match v with
        | .bool r => bc r (exec C call n a e) (exec C call n b e)
        | _ => M.no "cond" : M (X × T AV))) (ways kn kx kr) nx H L
      rw [opnF_run, iha, ihb]
      cases opnd e c with
      | none => rfl
      | some v => cases v <;> try rfl
                  rename_i w; cases w <;> rfl
  | block id c ih =>
    intro n kn kx kr e
    show (bC (codeF C c) fun F => (⟨fun call n kn kx kr e nx H L => Nat.rec (.no "fuel") (fun m _ => F call m kn (fun i e => Bool.rec (kx i e) (kn e) (Nat.beq i id)) kr e nx H L) n⟩ : Cg CC)).run call n kn kx kr e = _
    rw [bC_run]
    cases n with
    | zero => rfl
    | succ n =>
      show (codeF C c).run call n kn (fun i e => Bool.rec (kx i e) (kn e) (Nat.beq i id)) kr e = exBl (exec C call n) e id c (ways kn kx kr)
      rw [ih]
      show exec C call n c e _ = exec C call n c e _
      congr 1
      funext r
      obtain ⟨x, e'⟩ := r
      cases x with
      | nrm => rfl
      | ret => rfl
      | ext i =>
        show (Bool.rec (kx i e') (kn e') (Nat.beq i id) : R) = (bc (Nat.beq i id) (M.ret (X.nrm, e')) (M.ret (X.ext i, e')) : M (X × T AV)) (ways kn kx kr)
        cases Nat.beq i id <;> rfl
  | loop c ih =>
    intro n
    induction n with
    | zero => 
      intro kn kx kr e
      show (bC (codeF C c) fun F => (⟨fun call n kn kx kr => Nat.rec (fun _ _ _ _ => .no "fuel") (fun m ih => F call m ih kx kr) n⟩ : Cg CC)).run call 0 kn kx kr e = _
      rw [bC_run]; rfl
    | succ n ihn =>
      intro kn kx kr e
      have e0 : ∀ n, (codeF C (.loop c)).run call n kn kx kr = Nat.rec (motive := fun _ => KE) (fun _ _ _ _ => .no "fuel") (fun m ih => (codeF C c).run call m ih kx kr) n := by
        intro n
        show (bC (codeF C c) fun F => (⟨fun call n kn kx kr => Nat.rec (fun _ _ _ _ => .no "fuel") (fun m ih => F call m ih kx kr) n⟩ : Cg CC)).run call n kn kx kr = _
        rw [bC_run]
      rw [e0]
      show (codeF C c).run call n (Nat.rec (motive := fun _ => KE) (fun _ _ _ _ => .no "fuel") (fun m ih => (codeF C c).run call m ih kx kr) n) kx kr e = exLoop (exec C call n) e c (ways kn kx kr)
      rw [← e0, ih]
      show exec C call n c e _ = exec C call n c e _
      congr 1
      funext r
      obtain ⟨x, e'⟩ := r
      cases x with
      | nrm => exact ihn ..
      | ext i => rfl
      | ret => rfl
theorem slotsF_eq : ∀ (l : List AV) (i : Nat) (e : T AV) (k : KE), slotsF l i e k = k (slots l i e) := by
  intro l
  induction l with
  | nil => intro i e k; rfl
  | cons a l ih =>
    intro i e k
    show (slotP i).run e a (fun e => slotsF l (i + 1) e k) = _
    rw [slotP_run, ih]; rfl
theorem resL_eq : ∀ (rs : List ResultVar) (k : List AV → R) (e : T AV), (resL C rs).run k e = resultsA C e rs k := by
  intro rs
  induction rs with
  | nil => intro k e; rfl
  | cons r rs ih =>
    intro k e
    have hI : (resL C rs).run = fun k e => resultsA C e rs k := by funext k e; exact ih ..
    show (bC (resL C rs) fun I => (ResultVar.casesOn r
      (fun t => bC (slotG t) fun X => ⟨fun k e nx H L => Option.rec (.no "result") (fun v => I (fun vs => k (v :: vs)) e nx H L) (X e)⟩)
      (fun a t => bC (slotG a) fun X => bC (loadG C (aggN C t)) fun Y => ⟨fun k e nx H L => Option.rec (.no "result cell") (fun p => Option.rec (.no "result cell") (fun _ => Y p (fun v => I (fun vs => k (v :: vs)) e) nx H L) (asPtr p)) (X e)⟩) : Cg ((List AV → R) → KE))).run k e = _
    rw [bC_run, hI]
    cases r with
    | tmp t =>
      simp only [bC_run, slotG_fun]
      funext nx H L
      show Option.rec (motive := fun _ => Ans) (.no "result") (fun v => resultsA C e rs (fun vs => k (v :: vs)) nx H L) (e.get t) = (M.lift "result" (e.get t)).bind (fun v => (resultsA C e rs).bind fun vs => M.ret (v :: vs)) k nx H L
      cases e.get t <;> rfl
    | cell a t =>
      simp only [bC_run, slotG_fun]
      funext nx H L
      show Option.rec (motive := fun _ => Ans) (.no "result cell") (fun p => Option.rec (.no "result cell") (fun _ => (loadG C (aggN C t)).run p (fun v => resultsA C e rs (fun vs => k (v :: vs))) nx H L) (asPtr p)) (e.get a) = ((M.lift "result cell" (e.get a)).bind fun p => ((match p with
        | .ptr b off => load C t b off
        | _ => M.no "result cell" : M AV).bind fun v => (resultsA C e rs).bind fun vs => M.ret (v :: vs))) k nx H L
      cases e.get a with
      | none => rfl
      | some p =>
        show Option.rec (motive := fun _ => Ans) (.no "result cell") (fun _ => (loadG C (aggN C t)).run p (fun v => resultsA C e rs (fun vs => k (v :: vs))) nx H L) (asPtr p) = _
        cases p <;> try rfl
        show (loadG C (aggN C t)).run _ (fun v => resultsA C e rs (fun vs => k (v :: vs))) nx H L = _
        rw [loadG_eq]
        rfl
theorem resF1_eq (rs : List ResultVar) (k : AV → R) (e : T AV) : (resF1 C rs).run k e = resultsA C e rs (fun vs => k (oneOf vs)) := by
  have gen : (bC (resL C rs) fun X => (⟨fun k => X fun vs => k (oneOf vs)⟩ : Cg ((AV → R) → KE))).run k e = resultsA C e rs (fun vs => k (oneOf vs)) := by
    rw [bC_run]; exact resL_eq ..
  cases rs with
  | nil => exact gen
  | cons r rs => cases rs with
    | cons _ _ => exact gen
    | nil => cases r with
      | cell _ _ => exact gen
      | tmp t =>
        show (bC (slotG t) fun X => (⟨fun k e nx H L => Option.rec (.no "result") (fun v => k v nx H L) (X e)⟩ : Cg ((AV → R) → KE))).run k e = _
        rw [bC_run, slotG_fun]
        funext nx H L
        show Option.rec (motive := fun _ => Ans) (.no "result") (fun v => k v nx H L) (e.get t) = (M.lift "result" (e.get t)).bind (fun v => (M.ret []).bind fun vs => M.ret (v :: vs)) (fun vs => k (oneOf vs)) nx H L
        cases e.get t <;> rfl
theorem fnF_eq (f : Nat) (call : Cll) (args : List AV) (k : AV → R) : (fnF C (funcBody C f)).run call args k = callText C call f args k := by
  unfold callText
  cases funcBody C f with
  | none => rfl
  | some fb =>
    show (bC (codeF C fb.1) fun F => bC (resF1 C fb.2) fun S => (⟨fun call args k => slotsF args 0 .leaf (F call 1000000 (S k) (fun _ _ _ _ _ => .no "left by an exit") (S k))⟩ : Cg (Cll → List AV → M AV))).run call args k = _
    rw [bC_run, bC_run]
    show slotsF args 0 .leaf ((codeF C fb.1).run call 1000000 ((resF1 C fb.2).run k) (fun _ _ _ _ _ => .no "left by an exit") ((resF1 C fb.2).run k)) = _
    rw [slotsF_eq, codeF_eq]
    show exec C call 1000000 fb.1 (slots args 0 .leaf) _ = exec C call 1000000 fb.1 (slots args 0 .leaf) _
    congr 1
    funext r
    obtain ⟨x, e⟩ := r
    cases x with
    | nrm => exact resF1_eq ..
    | ext i => rfl
    | ret => exact resF1_eq ..
/-- what is answered in the place of a text: of the listed functions alone -/
def ExtIn (C : Cx) (p : Nat → Bool) : Prop := ∀ f, p f = false → ∀ call args, C.ext C.bd call f args = none
theorem callG_eq {p : Nat → Bool} (hx : ExtIn C p) : ∀ n, callG C p n = callN C n := by
  intro n
  induction n with
  | zero => rfl
  | succ n ih =>
    funext f args
    show (stepG C f (p f)).run (callG C p n) args = callStep C (callN C n) f args
    rw [ih]
    cases he : p f with
    | true => rfl
    | false =>
      show (fnF C (funcBody C f)).run (callN C n) args = _
      unfold callStep
      rw [hx f he]
      funext k
      exact fnF_eq ..
theorem callF_eq (hx : ExtIn C extIs) (n : Nat) : callF C n = callN C n := callG_eq C hx n
theorem extA_none {P : Program} {bd : Bd} {f : Nat} (hf : extIs f = false) (call : Cll) (args : List AV) : extA P bd call f args = none := by
  have h : f ≠ 232 ∧ f ≠ 342 ∧ f ≠ 304 ∧ f ≠ 211 ∧ f ≠ 186 ∧ f ≠ 299 ∧ f ≠ 323 ∧ f ≠ 12 := by
    refine ⟨?_, ?_, ?_, ?_, ?_, ?_, ?_, ?_⟩ <;> (intro h; subst h; revert hf; decide)
  obtain ⟨h1, h2, h3, h4, h5, h6, h7, h8⟩ := h
  unfold extA
  split
  · exact (h5 rfl).elim
  · exact (h6 rfl).elim
  · exact (h8 rfl).elim
  · unfold extK
    split <;> first | rfl | exact (h1 rfl).elim | exact (h2 rfl).elim | exact (h3 rfl).elim | exact (h4 rfl).elim | exact (h7 rfl).elim
end
end Go.AM
