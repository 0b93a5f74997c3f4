import Derived.Test.YtpgfdoakehpnlaaGreatDoorAxI
import Derived.Test.YtpgfdoakehpnlaaGreatDoorAxB
import Derived.KernelRfl
set_option linter.unusedVariables false
set_option linter.unusedSimpArgs false
open Go
set_option linter.unusedVariables false
namespace Go.AM
/-! # The quick form does what the text says -/
theorem bC_run {α β : Type} (c : Cg α) (f : α → Cg β) : (bC c f).run = (f c.run).run := by cases c; rfl
theorem orec {α β : Type} (o : Option α) (d : β) (f : α → β) : Option.rec (motive := fun _ => β) d f o = (match o with | none => d | some a => f a) := by cases o <;> rfl
theorem tabG0_eq : tabG0 = (List.range 32).map (fun i => (⟨fun e => T.get e (32 * 0 + i)⟩ : Cg (T AV → Option AV))) := by kernel_rfl
theorem tabP0_eq : tabP0 = (List.range 32).map (fun i => (⟨fun e v k => T.putC e (32 * 0 + i) (some v) k⟩ : Cg (T AV → AV → KE → R))) := by kernel_rfl
theorem tabG1_eq : tabG1 = (List.range 32).map (fun i => (⟨fun e => T.get e (32 * 1 + i)⟩ : Cg (T AV → Option AV))) := by kernel_rfl
theorem tabP1_eq : tabP1 = (List.range 32).map (fun i => (⟨fun e v k => T.putC e (32 * 1 + i) (some v) k⟩ : Cg (T AV → AV → KE → R))) := by kernel_rfl
theorem tabG2_eq : tabG2 = (List.range 32).map (fun i => (⟨fun e => T.get e (32 * 2 + i)⟩ : Cg (T AV → Option AV))) := by kernel_rfl
theorem tabP2_eq : tabP2 = (List.range 32).map (fun i => (⟨fun e v k => T.putC e (32 * 2 + i) (some v) k⟩ : Cg (T AV → AV → KE → R))) := by kernel_rfl
theorem tabG3_eq : tabG3 = (List.range 32).map (fun i => (⟨fun e => T.get e (32 * 3 + i)⟩ : Cg (T AV → Option AV))) := by kernel_rfl
theorem tabP3_eq : tabP3 = (List.range 32).map (fun i => (⟨fun e v k => T.putC e (32 * 3 + i) (some v) k⟩ : Cg (T AV → AV → KE → R))) := by kernel_rfl
theorem tabG4_eq : tabG4 = (List.range 32).map (fun i => (⟨fun e => T.get e (32 * 4 + i)⟩ : Cg (T AV → Option AV))) := by kernel_rfl
theorem tabP4_eq : tabP4 = (List.range 32).map (fun i => (⟨fun e v k => T.putC e (32 * 4 + i) (some v) k⟩ : Cg (T AV → AV → KE → R))) := by kernel_rfl
theorem tabG5_eq : tabG5 = (List.range 32).map (fun i => (⟨fun e => T.get e (32 * 5 + i)⟩ : Cg (T AV → Option AV))) := by kernel_rfl
theorem tabP5_eq : tabP5 = (List.range 32).map (fun i => (⟨fun e v k => T.putC e (32 * 5 + i) (some v) k⟩ : Cg (T AV → AV → KE → R))) := by kernel_rfl
theorem tabG6_eq : tabG6 = (List.range 32).map (fun i => (⟨fun e => T.get e (32 * 6 + i)⟩ : Cg (T AV → Option AV))) := by kernel_rfl
theorem tabP6_eq : tabP6 = (List.range 32).map (fun i => (⟨fun e v k => T.putC e (32 * 6 + i) (some v) k⟩ : Cg (T AV → AV → KE → R))) := by kernel_rfl
theorem tabG7_eq : tabG7 = (List.range 32).map (fun i => (⟨fun e => T.get e (32 * 7 + i)⟩ : Cg (T AV → Option AV))) := by kernel_rfl
theorem tabP7_eq : tabP7 = (List.range 32).map (fun i => (⟨fun e v k => T.putC e (32 * 7 + i) (some v) k⟩ : Cg (T AV → AV → KE → R))) := by kernel_rfl
theorem tabG_spec (t : Nat) : tabG t = if t < 256 then some ⟨fun e => T.get e t⟩ else none := by
  have hr : t % 32 < 32 := Nat.mod_lt _ (by omega)
  have key : ∀ (q : Nat) (l : List (Cg (T AV → Option AV))), l = (List.range 32).map (fun i => (⟨fun e => T.get e (32 * q + i)⟩ : Cg (T AV → Option AV))) → t / 32 = q → lget l (t % 32) = some ⟨fun e => T.get e t⟩ := by
    intro q l hl hq
    rw [hl, lget_eq, List.getElem?_map, List.getElem?_range hr]
    have : 32 * q + t % 32 = t := by omega
    simp only [Option.map_some, this]
  unfold tabG
  show lget (Nat.rec (motive := fun _ => List (Cg (T AV → Option AV))) tabG0 (fun m _ => Nat.rec tabG1 (fun m _ => Nat.rec tabG2 (fun m _ => Nat.rec tabG3 (fun m _ => Nat.rec tabG4 (fun m _ => Nat.rec tabG5 (fun m _ => Nat.rec tabG6 (fun m _ => Nat.rec tabG7 (fun _ _ => []) m) m) m) m) m) m) m) (t / 32)) (t % 32) = _
  generalize hq : t / 32 = q
  match q, hq with
  | 0, hq => rw [if_pos (by omega)]; exact key 0 _ tabG0_eq hq
  | 1, hq => rw [if_pos (by omega)]; exact key 1 _ tabG1_eq hq
  | 2, hq => rw [if_pos (by omega)]; exact key 2 _ tabG2_eq hq
  | 3, hq => rw [if_pos (by omega)]; exact key 3 _ tabG3_eq hq
  | 4, hq => rw [if_pos (by omega)]; exact key 4 _ tabG4_eq hq
  | 5, hq => rw [if_pos (by omega)]; exact key 5 _ tabG5_eq hq
  | 6, hq => rw [if_pos (by omega)]; exact key 6 _ tabG6_eq hq
  | 7, hq => rw [if_pos (by omega)]; exact key 7 _ tabG7_eq hq
  | q + 8, hq => rw [if_neg (by omega)]; exact lget_eq _ _
theorem tabP_spec (t : Nat) : tabP t = if t < 256 then some ⟨fun e v k => T.putC e t (some v) k⟩ else none := by
  have hr : t % 32 < 32 := Nat.mod_lt _ (by omega)
  have key : ∀ (q : Nat) (l : List (Cg (T AV → AV → KE → R))), l = (List.range 32).map (fun i => (⟨fun e v k => T.putC e (32 * q + i) (some v) k⟩ : Cg (T AV → AV → KE → R))) → t / 32 = q → lget l (t % 32) = some ⟨fun e v k => T.putC e t (some v) k⟩ := by
    intro q l hl hq
    rw [hl, lget_eq, List.getElem?_map, List.getElem?_range hr]
    have : 32 * q + t % 32 = t := by omega
    simp only [Option.map_some, this]
  unfold tabP
  show lget (Nat.rec (motive := fun _ => List (Cg (T AV → AV → KE → R))) tabP0 (fun m _ => Nat.rec tabP1 (fun m _ => Nat.rec tabP2 (fun m _ => Nat.rec tabP3 (fun m _ => Nat.rec tabP4 (fun m _ => Nat.rec tabP5 (fun m _ => Nat.rec tabP6 (fun m _ => Nat.rec tabP7 (fun _ _ => []) m) m) m) m) m) m) m) (t / 32)) (t % 32) = _
  generalize hq : t / 32 = q
  match q, hq with
  | 0, hq => rw [if_pos (by omega)]; exact key 0 _ tabP0_eq hq
  | 1, hq => rw [if_pos (by omega)]; exact key 1 _ tabP1_eq hq
  | 2, hq => rw [if_pos (by omega)]; exact key 2 _ tabP2_eq hq
  | 3, hq => rw [if_pos (by omega)]; exact key 3 _ tabP3_eq hq
  | 4, hq => rw [if_pos (by omega)]; exact key 4 _ tabP4_eq hq
  | 5, hq => rw [if_pos (by omega)]; exact key 5 _ tabP5_eq hq
  | 6, hq => rw [if_pos (by omega)]; exact key 6 _ tabP6_eq hq
  | 7, hq => rw [if_pos (by omega)]; exact key 7 _ tabP7_eq hq
  | q + 8, hq => rw [if_neg (by omega)]; exact lget_eq _ _
theorem slotG_run (t : Nat) (e : T AV) : (slotG t).run e = e.get t := by
  unfold slotG
  rw [tabG_spec]
  by_cases h : t < 256
  · rw [if_pos h]
  · rw [if_neg h]
theorem slotP_run (t : Nat) (e : T AV) (v : AV) (k : KE) : (slotP t).run e v k = k (e.put t (some v)) := by
  unfold slotP
  rw [tabP_spec]
  by_cases h : t < 256
  · rw [if_pos h]; exact T.putC_eq ..
  · rw [if_neg h]; exact T.putC_eq ..
theorem dstP_run (d : Option Nat) (e : T AV) (v : AV) (k : KE) : (dstP d).run e v k = k (putDst e d v) := by
  cases d with
  | none => rfl
  | some d =>
    show (bC (slotP d) Cg.mk).run e v k = _
    rw [bC_run]
    exact slotP_run ..
theorem opnF_run (o : Operand) (e : T AV) : (opnF o).run e = opnd e o := by
  cases o with
  | tmp t => show (bC (slotG t) Cg.mk).run e = _; rw [bC_run]; exact slotG_run ..
  | const v => show (Option.rec (motive := fun _ => Cg (T AV → Option AV)) ⟨fun _ => none⟩ (fun a => ⟨fun _ => some a⟩) (ofV v)).run e = ofV v; cases ofV v <;> rfl
  | global g => rfl
  | func f => rfl
end Go.AM
set_option linter.unusedVariables false
open Go
namespace Go.AM
section
variable (C : Cx)
theorem seqF_eq (s t : SS) : seqF C s t = seq C.bd s t := by
  cases s with
  | nil => rfl
  | cons p s => cases s with
    | cons q s => rfl
    | nil => cases p with
      | var i => rfl
      | one e => rfl
      | lit l n => cases t with
        | nil => rfl
        | cons q t => cases t with
          | cons _ _ => rfl
          | nil => cases q <;> rfl
theorem eqcF_eq (d : Option TypeDesc) (x y : AV) : (eqcF C d).run x y = eqc C d x y := by
  cases d with
  | none => rfl
  | some d => 
    cases d <;> try rfl
    cases x <;> try rfl
    cases y <;> try rfl
    exact seqF_eq C _ _
theorem eqcsF_eq : ∀ (fs : List Field) (a b : List AV), (eqcsF C fs).run a b = eqcs C fs a b := by
  intro fs
  induction fs with
  | nil => intro a b; cases a <;> cases b <;> rfl
  | cons f fs ih =>
    intro a b
    show (bC (eqcF C (desc C f.type)) fun F => bC (eqcsF C fs) fun I => (⟨fun a b => List.casesOn a none fun x a => List.casesOn b none fun y b => Option.rec none (fun r => Bool.rec (some false) (I a b) r) (F x y)⟩ : Cg (List AV → List AV → Option Bool))).run a b = _
    rw [bC_run, bC_run]
    cases a with
    | nil => cases b <;> rfl
    | cons x a => cases b with
      | nil => rfl
      | cons y b =>
        show Option.rec (motive := fun _ => Option Bool) none (fun r => Bool.rec (some false) ((eqcsF C fs).run a b) r) ((eqcF C (desc C f.type)).run x y) = ob (eqc C (desc C f.type) x y) fun r => bc r (eqcs C fs a b) (some false)
        rw [ih, eqcF_eq]
        rfl
theorem eqstF_eq (t : TypeId) {E : List AV → List AV → Option Bool} (h : (eqstF C t).run = some E) (a b : List AV) : E a b = eqv C t (.agg a) (.agg b) := by
  unfold eqstF at h
  unfold eqv eqst
  cases hd : desc C t with
  | none => rw [hd] at h; cases h
  | some d =>
    rw [hd] at h
    cases d <;> try (cases h; done)
    rename_i fs
    cases hp : plainS C t fs.toList with
    | false => simp only [hp] at h; cases h
    | true =>
      simp only [hp, bC_run] at h
      cases h
      simp only [hp]
      exact eqcsF_eq C _ _ _
theorem kIx_eq (k j : IntKind) : Nat.beq (kIx k) (kIx j) = (k == j) := by cases k <;> cases j <;> rfl
theorem int2_eq {op : BinOp} {t : TypeId} {sh : Bool} {f : IntKind → SI → SI → Option AV} (hs : sh = (op == .shl || op == .shr)) (hf : ∀ k a b, f k a b = intOp C op k a b) (x y : AV) : int2 C op t sh f x y = binOp C op t x y := by
  cases x <;> try rfl
  · cases y <;> try rfl
    rename_i k a j b
    have hc : (Bool.rec (Nat.beq (kIx k) (kIx j)) true sh : Bool) = (k == j || op == .shl || op == .shr) := by
      rw [kIx_eq, hs, Bool.or_assoc]
      cases (op == .shl || op == .shr) <;> simp
    funext c nx H L
    show Bool.rec (motive := fun _ => Ans) (.no "kinds") (Option.rec (.no "intOp") (fun v => c v nx H L) (f k a b)) (Bool.rec (Nat.beq (kIx k) (kIx j)) true sh : Bool) = (bc (k == j || op == .shl || op == .shr) (M.lift "intOp" (intOp C op k a b)) (M.no "kinds") : M AV) c nx H L
    rw [hc, hf]
    cases (k == j || op == .shl || op == .shr) <;> rfl
  · cases y <;> rfl
theorem wrapK_eq (k : IntKind) (o : Option SI) : Option.rec (motive := fun _ => Option AV) none (wrapK C k) o = mkI k (ob o fun e => wrap C.bd k e) := by cases o <;> rfl
theorem stF_eq {t : TypeId} {g : AV → AV → M AV} {w : String} {j : Option Bool → Option AV} (h : ∀ a b, g (.agg a) (.agg b) = M.lift w (j (eqv C t (.agg a) (.agg b)))) (x y : AV) : (stF C t g w j).run x y = g x y := by
  unfold stF
  rw [bC_run]
  cases hE : (eqstF C t).run with
  | none => rfl
  | some E =>
    cases x <;> try rfl
    cases y <;> try rfl
    rename_i a b
    rw [h, ← eqstF_eq C t hE]
    rfl
theorem txF_eq {g : AV → AV → M AV} {j : Option Bool → Option AV} (h : ∀ a b, g (.str a) (.str b) = M.lift "strOp" (j (seq C.bd a b))) (x y : AV) : txF C g j x y = g x y := by
  cases x <;> try rfl
  cases y <;> try rfl
  rename_i a b
  rw [h]
  show (fun (k : AV → Nat → T AB → Log → Ans) (nx : Nat) (H : T AB) (L : Log) => Option.rec (motive := fun _ => Ans) (.no "strOp") (fun v => k v nx H L) (j (seqF C a b))) = _
  rw [seqF_eq]
  rfl
theorem binF_eq (op : BinOp) (t : TypeId) (x y : AV) : (binF C op t).run x y = binOp C op t x y := by
  cases op
  case add => exact int2_eq C (op := .add) rfl (fun k a b => wrapK_eq C k (SI.add a b)) x y
  case sub => exact int2_eq C (op := .sub) rfl (fun k a b => wrapK_eq C k (SI.sub a b)) x y
  case mul => exact int2_eq C (op := .mul) rfl (fun k a b => wrapK_eq C k (SI.mul a b)) x y
  case eql =>
    have e : ∀ x y, int2 C .eql t false (fun _ a b => mkB (SI.eq C.bd a b)) x y = binOp C .eql t x y := int2_eq C rfl (fun k a b => rfl)
    have e2 : ∀ x y, txF C (int2 C .eql t false (fun _ a b => mkB (SI.eq C.bd a b))) mkB x y = binOp C .eql t x y := fun x y => (txF_eq C (fun a b => by rw [e]; rfl) x y).trans (e x y)
    exact (stF_eq C (fun a b => by rw [e2]; rfl) x y).trans (e2 x y)
  case neq =>
    have e : ∀ x y, int2 C .neq t false (fun _ a b => mkNB (SI.eq C.bd a b)) x y = binOp C .neq t x y := int2_eq C rfl (fun k a b => rfl)
    have e2 : ∀ x y, txF C (int2 C .neq t false (fun _ a b => mkNB (SI.eq C.bd a b))) mkNB x y = binOp C .neq t x y := fun x y => (txF_eq C (fun a b => by rw [e]; rfl) x y).trans (e x y)
    exact (stF_eq C (fun a b => by rw [e2]; rfl) x y).trans (e2 x y)
  all_goals exact int2_eq C rfl (fun k a b => rfl) x y
theorem cellF_eq (A : AB) (off : SI) : cellF C A off = cellOf C A off := by cases A <;> rfl
theorem loadG_eq (t : TypeId) (x : AV) : (loadG C (aggN C t)).run x = (match x with
    | .ptr b off => load C t b off
    | _ => M.no "load: from what") := by
  unfold load
  cases aggN C t with
  | none => cases x <;> rfl
  | some g =>
    cases x <;> try (cases g <;> rfl)
    rename_i b off
    funext k nx H L
    cases g with
    | none =>
      show Option.rec (motive := fun _ => Ans) (.no "rd: no such block") (fun A => Option.rec (.no "load") (fun v => k v nx H ((b, false) :: L)) (cellF C A off)) (T.get H b) = Option.rec (motive := fun _ => Ans) (.no "rd: no such block") (fun A => Option.rec (.no "load") (fun v => k v nx H ((b, false) :: L)) (cellOf C A off)) (T.get H b)
      simp only [cellF_eq]
    | some n => rfl
theorem storeF_eq (t : TypeId) (a x : AV) : (storeF C (tsize C t)).run a x = (match a with
    | .ptr b off => store C t b off x
    | _ => M.no "store: where") := by
  unfold store
  cases tsize C t with
  | none => cases a <;> rfl
  | some n =>
    cases a <;> try rfl
    rename_i b off
    funext k nx H L
    show Option.rec (motive := fun _ => Ans) (.no "rd: no such block") (fun A => Option.rec (.no "store") (fun A' => T.putC H b (some A') fun H => k (.tup []) nx H ((b, true) :: (b, false) :: L)) (storeA C n A off x)) (T.get H b) =
      Option.rec (motive := fun _ => Ans) (.no "rd: no such block") (fun A => Option.rec (.no "store") (fun A' => Option.rec (motive := fun _ => Ans) (.no "wr: no such block") (fun _ => k (.tup []) nx (H.put b (some A')) ((b, true) :: (b, false) :: L)) (T.get H b)) (storeA C n A off x)) (T.get H b)
    cases hb : T.get H b with
    | none => rfl
    | some A => 
      show Option.rec (motive := fun _ => Ans) (.no "store") (fun A' => T.putC H b (some A') fun H => k (.tup []) nx H ((b, true) :: (b, false) :: L)) (storeA C n A off x) = Option.rec (motive := fun _ => Ans) (.no "store") (fun A' => k (.tup []) nx (H.put b (some A')) ((b, true) :: (b, false) :: L)) (storeA C n A off x)
      simp only [T.putC_eq]
theorem faddrF_eq (s : TypeId) (x : AV) (f : Nat) : (faddrF (fieldOff C s f)).run x = fieldAddr C s x f := by
  unfold fieldAddr
  cases fieldOff C s f with
  | none => cases x <;> rfl
  | some d => cases x <;> rfl
theorem mulF_eq (i : SI) (n : Nat) : mulF i n = i.mul (.k n) := by cases i <;> rfl
theorem iaddrD_eq (t : TypeId) (x i : AV) : (iaddrD C t (desc C t) (tsize C)).run x i = indexAddr C t x i := by
  have e : indexAddr C t x i = indexAddr C t x i := rfl
  unfold indexAddr at e ⊢
  cases hd : desc C t with
  | none => rfl
  | some d =>
    cases d <;> try rfl
    · rename_i el
      cases hz : tsize C el with
      | none => 
        show (Option.rec (motive := fun _ => Cg (AV → AV → Option AV)) ⟨fun _ _ => none⟩ _ (tsize C el)).run x i = _
        rw [hz]
        cases x <;> try rfl
        cases i <;> try rfl
        rename_i b off len cap z k i
        show none = bc (inRange C i len) (ob (tsize C el) _) none
        rw [hz]
        cases inRange C i len <;> rfl
      | some z =>
        show (Option.rec (motive := fun _ => Cg (AV → AV → Option AV)) ⟨fun _ _ => none⟩ (fun z => ⟨fun x i => Option.rec none (fun s => Option.rec none (fun i => Bool.rec none (Option.rec none (fun m => Option.rec none (fun o => some (.ptr s.b o)) (s.off.add m)) (mulF i.e z)) (inRange C i.e s.len)) (asInt i)) (asSl x)⟩) (tsize C el)).run x i = _
        rw [hz]
        cases x <;> try rfl
        cases i <;> try rfl
        rename_i b off len cap z' k i
        show Bool.rec (motive := fun _ => Option AV) none (Option.rec none (fun m => Option.rec none (fun o => some (.ptr b o)) (off.add m)) (mulF i z)) (inRange C i len) = bc (inRange C i len) (ob (tsize C el) fun esz => ob (sliceCell off i esz) fun o => some (.ptr b o)) none
        rw [hz, mulF_eq]
        show Bool.rec (motive := fun _ => Option AV) none (Option.rec none (fun m => Option.rec none (fun o => some (.ptr b o)) (off.add m)) (i.mul (.k z))) (inRange C i len) = bc (inRange C i len) (ob (ob (i.mul (.k z)) fun d => off.add d) fun o => some (.ptr b o)) none
        cases inRange C i len
        · rfl
        · cases i.mul (.k z) <;> rfl
    · rename_i n el
      show indexAddr C t x i = _
      unfold indexAddr
      rw [hd]
theorem lenF_eq (t : TypeId) (x : AV) : (lenF C t (desc C t)).run x = lenOp C t x := by
  unfold lenOp
  cases hd : desc C t with
  | none => show lenOp C t x = _; unfold lenOp; rw [hd]
  | some d =>
    cases d <;> try (show lenOp C t x = _; unfold lenOp; rw [hd])
    · cases x <;> first | rfl | (show lenOp C t _ = _; unfold lenOp; rw [hd])
    · cases x <;> first | rfl | (show lenOp C t _ = _; unfold lenOp; rw [hd])
theorem builtF_eq (b : Builtin) (ts : List TypeId) (l : List AV) : (builtF C b ts).run l = builtin C b ts l := by
  cases b <;> try rfl
  · -- append
    cases ts with
    | nil => rfl
    | cons t ts => cases ts with
      | nil => rfl
      | cons u ts => cases ts with
        | cons _ _ => rfl
        | nil =>
          cases hl : isList (desc C u) with
          | false =>
            show (Bool.rec (motive := fun _ => Cg (List AV → M AV)) ⟨builtin C .append [t, u]⟩ _ (isList (desc C u))).run l = _
            rw [hl]
          | true =>
            show (Bool.rec (motive := fun _ => Cg (List AV → M AV)) ⟨builtin C .append [t, u]⟩ ⟨fun l => List.casesOn l (builtin C .append [t, u] l) fun s l' => List.casesOn l' (builtin C .append [t, u] l) fun x l'' => List.casesOn l'' (append C t s x) fun _ _ => builtin C .append [t, u] l⟩ (isList (desc C u))).run l = _
            rw [hl]
            cases l with
            | nil => rfl
            | cons s l => cases l with
              | nil => rfl
              | cons x l => cases l with
                | cons _ _ => rfl
                | nil =>
                  show append C t s x = bc (isList (desc C u)) (append C t s x) (M.no "append: a make")
                  rw [hl]; rfl
  · -- len
    cases ts with
    | nil => rfl
    | cons t ts => cases ts with
      | cons _ _ => rfl
      | nil =>
        show (bC (lenF C t (desc C t)) fun F => (⟨fun l => List.casesOn l (builtin C .len [t] l) fun x l' => List.casesOn l' (fun k nx H L => Option.rec (.no "len") (fun v => k v nx H L) (F x)) fun _ _ => builtin C .len [t] l⟩ : Cg (List AV → M AV))).run l = _
        rw [bC_run]
        cases l with
        | nil => rfl
        | cons x l => cases l with
          | cons _ _ => rfl
          | nil =>
            show (fun (k : AV → Nat → T AB → Log → Ans) (nx : Nat) (H : T AB) (L : Log) => Option.rec (motive := fun _ => Ans) (.no "len") (fun v => k v nx H L) ((lenF C t (desc C t)).run x)) = M.lift "len" (lenOp C t x)
            rw [lenF_eq]; rfl
theorem indexF_eq (t : TypeId) (x i : AV) : (indexF C t (desc C t)).run x i = index C t x i := by
  unfold index
  cases hd : desc C t with
  | none => show index C t x i = _; unfold index; rw [hd]
  | some d =>
    cases d <;> try (show index C t x i = _; unfold index; rw [hd])
    · cases x <;> try rfl
      cases i <;> rfl
theorem argsF_eq : ∀ (l : List Operand) (k : List AV → R) (e : T AV), (argsF l).run k e = M.lift "call: args" (opnds e l) k := by
  intro l
  induction l with
  | nil => intro k e; rfl
  | cons o l ih =>
    intro k e
    show (bC (opnF o) fun G => bC (argsF l) fun I => (⟨fun k e nx H L => Option.rec (.no "call: args") (fun a => I (fun l => k (a :: l)) e nx H L) (G e)⟩ : Cg ((List AV → R) → KE))).run k e = _
    rw [bC_run, bC_run]
    funext nx H L
    show Option.rec (motive := fun _ => Ans) (.no "call: args") (fun a => (argsF l).run (fun l => k (a :: l)) e nx H L) ((opnF o).run e) = M.lift "call: args" (ob (opnd e o) fun a => ob (opnds e l) fun l => some (a :: l)) k nx H L
    rw [opnF_run]
    cases opnd e o with
    | none => rfl
    | some a =>
      show (argsF l).run (fun l => k (a :: l)) e nx H L = _
      rw [ih]
      show _ = M.lift "call: args" (ob (opnds e l) fun l => some (a :: l)) k nx H L
      cases opnds e l <;> rfl
end
end Go.AM
