import Derived.Test.YtpgfdoakehpnlaaGreatDoorAxP
set_option linter.unusedVariables false
set_option linter.unusedSimpArgs false
namespace Go.AM
set_option linter.unusedVariables false
/-! # TopBudget: what is answered in the place of texts -/
noncomputable section
open M
def few (bd : Bd) (n : SI) : Bool := isT (ob (SI.hi bd n) fun h => some (ile h 100000))
def within0 (bd : Bd) (lo hi : Int) (e : SI) : Bool := match SI.lo bd e, SI.hi bd e with
  | some l, some h => bc (ile lo l) (ile h hi) false
  | _, _ => false
/-- which digit is it whose path this is? -/
def isPath (bd : Bd) (s : SS) : Option Nat := match s with
  | [.lit 1 47, .one (.bt 48 [(i, 1)] 0 0)] => bc (within0 bd 0 9 (.lin 0 [(i, 1)])) (some i) none
  | _ => none
/-- such a text as it stands in a block of fields -/
def encP (bd : Bd) (s : SS) : Option SS := ob (isPath bd s) fun _ => some (scat [.lit 1 2] s)
def textOld (bd : Bd) (A : AB) (off len : SI) (T : SS) : Option (SI × SS) := match A, off with
  | .byt s, .k 0 => ob (stake bd s len) fun t => ob (slen T) fun n => ob (len.add n) fun need => bc (few bd len) (some (need, scat t T)) none
  | _, _ => none
/-- pack.text, of such a text -/
def textM (bd : Bd) (b : AV) (T : SS) : M AV := match b with
  | .nils => (lift "text" (slen T)).bind fun n => appNew n (.bytes T) 1
  | .sl b off len _ z => bc (Nat.beq z 1) ((rd b).bind fun A => (lift "text: old" (textOld bd A off len T)).bind fun r => appNew r.1 (.bytes r.2) 1) (no "text: of what")
  | _ => no "text"
/-- a number of one digit, written -/
def itoaA (bd : Bd) (e : SI) : Option AV := match e with
  | .lin 0 [(i, 1)] => bc (within0 bd 0 9 (.lin 0 [(i, 1)])) (some (.str [.one (.bt 48 [(i, 1)] 0 0)])) none
  | _ => none
def isIn (a b i : Nat) : Bool := bc (Nat.ble a i) (Nat.ble i b) false
/-- what is handed in, made to lie within bounds -/
def withinL (bd : Bd) (i : Nat) (lo hi : Int) : Option AV :=
  bc (bc (ieq lo 0) (bc (ieq hi 9) (isIn 200 214 i) false) false) (some (.int .i64 (.lin 0 [(Nat.add i 20, 1)])))
  (bc (bc (ieq lo 0) (bc (ieq hi 4000) (isIn 240 254 i) false) false)
    (bc (longer bd 37 (Nat.sub i 240)) (match lget bd (Nat.sub i 240) with
     | some (_, .ofNat 0) => some (.int .i64 (.k 0))
     | _ => some (.int .i64 (.lin 0 [(Nat.sub i 240, 1)]))) none)
  (bc (bc (ieq lo 0) (bc (ieq hi 3000) (Nat.beq i 34) false) false) (some (.int .i64 (.lin 0 [(33, 1)]))) none))
/-- is it the path of this round? -/
def curPath (bd : Bd) (s : SS) : Bool := match isPath bd s, turnOf bd with
  | some i, some t => Nat.beq i (Nat.add 220 t)
  | _, _ => false
/-! tables -/
def ltK (X : AB) : Option Nat := match X with
  | .lt k [] => some k
  | _ => none
/-- rows of known texts, the same? -/
def sameStr (x y : AV) : Bool := match x, y with
  | .str [.lit l n], .str [.lit m k] => bc (Nat.beq l m) (Nat.beq n k) false
  | .str [], .str [] => true
  | _, _ => false
def sameRow : List AV → List AV → Bool
  | [], [] => true
  | x :: a, y :: b => bc (sameStr x y) (sameRow a b) false
  | _, _ => false
/-- a table: its own row, how long that is, its size; the known ones and the bound stay -/
def tbRow (X : AB) : Option (Nat × SI × SI × Nat × AV × SI) := match X with
  | .row [.sl b (.k 0) len cap 2, .sl kn (.k 0) (.k 61) kc 2, .int .i64 size, .int .i64 (.k 4096)] => some (b, len, cap.low, kn, .sl kn (.k 0) (.k 61) kc 2, size)
  | _ => none
def isKn (A : AB) : Option Unit := match A with
  | .row cs => bc (sameRow cs row186) (some ()) none
  | _ => none
/-- a field that is looked for: 0: the authority, 1: this round's path, 2: via -/
def fldOf (bd : Bd) (n v : SS) : Option Nat := match n, v with
  | [.lit 10 573553764997793127424314], [.lit 1 97] => some 0
  | [.lit 3 6383990], [.lit 11 138315448040357010542305330] => some 2
  | [.lit 5 448629141562], v => bc (curPath bd v) (some 1) none
  | _, _ => none
def posV (k j : Nat) : List (Nat × Int) := [(Nat.add 56 (Nat.add (Nat.mul 3 k) j), 1)]
/-- where a field is found in the table k (0, 1: a client's, before and behind this round; 2, 3: an origin's) -/
def findK (bd : Bd) (k j : Nat) : Option AV := match j with
  | 1 => bc (flag bd 69) (some (.tup [.int .i64 (.lin 61 (posV k 1)), .bool true]))
      (bc (bc (flag0 bd 69) (Nat.beq (Nat.mod k 2) 0) false) (some (.tup [.int .i64 (.k 4), .bool false])) none)
  | 2 => bc (Nat.ble 2 k) (some (.tup [.int .i64 (.lin 61 (posV k 2)), .bool true])) none
  | 0 => some (.tup [.int .i64 (.lin 61 (posV k 0)), .bool true])
  | _ => none
def isTb (k : Nat) : Option Nat := bc (isIn 2 5 k) (some (Nat.sub k 2)) none
def tbAt (A : AB) : Option Nat := ob (ltK A) isTb
/-- its length and its size, as letters tell them -/
def isTabL (k : Nat) (len size : SI) : Option Unit := match len, size with
  | .lin 0 [(q, 1)], .lin 0 [(s, 1)] => bc (Nat.beq q (Nat.add 48 k)) (bc (Nat.beq s (Nat.add 52 k)) (some ()) none) none
  | _, _ => none
def findT (bd : Bd) (call : Nat → List AV → M AV) (t : Nat) (n v : SS) (j b kn : Nat) (len size : SI) : M AV := (rd b).bind fun A => match tbAt A with
  | some k => (rd kn).bind fun K => (lift "find: the known ones" (isKn K)).bind fun _ => (lift "find: its length" (isTabL k len size)).bind fun _ => lift "find" (findK bd k j)
  | none => call 168 [.ptr t (.k 0), .agg [.str n, .str v], .tup []]
def findM (bd : Bd) (call : Nat → List AV → M AV) (t : Nat) (n v : SS) : M AV := (rd t).bind fun X => match fldOf bd n v, tbRow X with
  | some j, some (b, len, _, kn, _, size) => findT bd call t n v j b kn len size
  | _, _ => call 168 [.ptr t (.k 0), .agg [.str n, .str v], .tup []]
def getV (bd : Bd) (j : Nat) : Option AV := match j with
  | 0 => some (.agg [.str [.lit 10 573553764997793127424314], .str [.lit 1 97]])
  | 1 => ob (turnOf bd) fun i => some (.agg [.str [.lit 5 448629141562], .str [.lit 1 47, .one (.bt 48 [(Nat.add 220 i, 1)] 0 0)]])
  | 2 => some (.agg [.str [.lit 3 6383990], .str [.lit 11 138315448040357010542305330]])
  | _ => none
/-- is the field that is asked for there? the path only if the table knows it -/
def getJ (bd : Bd) (k p : Nat) : Option Nat := bc (isIn (Nat.add 56 (Nat.mul 3 k)) (Nat.add 58 (Nat.mul 3 k)) p) (match Nat.mod (Nat.sub p 56) 3 with
  | 0 => some 0
  | 1 => bc (bc (flag bd 69) true (Nat.beq (Nat.mod k 2) 1)) (some 1) none
  | _ => bc (Nat.ble 2 k) (some 2) none) none
def getM (bd : Bd) (t p : Nat) : M AV := (rd t).bind fun X => (lift "get: row" (tbRow X)).bind fun r => (rd r.1).bind fun A => (lift "get: table" (tbAt A)).bind fun k => (lift "get: its length" (isTabL k r.2.1 r.2.2.2.2.2)).bind fun _ => (rd r.2.2.2.1).bind fun K => (lift "get: the known ones" (isKn K)).bind fun _ =>
  (lift "get" (ob (getJ bd k p) fun j => ob (getV bd j) fun f => some (.tup [f, .bool true]))).bind fun v => ret v
def addK (bd : Bd) (k : Nat) : Option Unit := bc (bc (Nat.beq (Nat.mod k 2) 0) (flag0 bd 69) false) (some ()) none
def addT (bd : Bd) (call : Nat → List AV → M AV) (t : Nat) (n v : SS) (b kn : Nat) (len size : SI) : M AV := (rd b).bind fun A => match tbAt A with
  | some k => (lift "add" (addK bd k)).bind fun _ => (lift "add: its length" (isTabL k len size)).bind fun _ => (rd kn).bind fun K => (lift "add: the known ones" (isKn K)).bind fun _ => (wr b none).bind fun _ => (nw (.lt (Nat.add 3 k) [])).bind fun c =>
      (wr t (some (.row [.sl c (.k 0) (.lin 0 [(Nat.add 49 k, 1)]) (.ge (.lin 0 [(Nat.add 49 k, 1)])) 2, .sl kn (.k 0) (.k 61) (.ge (.k 61)) 2, .int .i64 (.lin 0 [(Nat.add 53 k, 1)]), .int .i64 (.k 4096)]))).bind fun _ => ret (.tup [])
  | none => call 171 [.ptr t (.k 0), .agg [.str n, .str v], .tup []]
def addM (bd : Bd) (call : Nat → List AV → M AV) (t : Nat) (n v : SS) : M AV := (rd t).bind fun X => match fldOf bd n v, tbRow X with
  | some 1, some (b, len, _, kn, _, size) => addT bd call t n v b kn len size
  | _, _ => call 171 [.ptr t (.k 0), .agg [.str n, .str v], .tup []]
/-! the store: its root hangs on its entries' row, and on the rows of fields of these -/
def stRoot (X : AB) : Option (Nat × Nat × List Nat) := match X with
  | .lt k (b :: l) => bc (isIn 10 12 k) (some (Nat.sub k 10, b, l)) none
  | _ => none
def natsEq : List Nat → List Nat → Bool
  | [], [] => true
  | a :: l, b :: m => bc (Nat.beq a b) (natsEq l m) false
  | _, _ => false
def isEn (k : Nat) (l : List Nat) (A : AB) : Option Unit := match A with
  | .lt j m => bc (bc (Nat.beq j (Nat.add 6 k)) (natsEq l m) false) (some ()) none
  | _ => none
def isReq (bd : Bd) (q : List AV) : Bool := match q with
  | [.str [.lit 3 5522759], .str [.lit 5 495807919208], .str [.lit 1 97], .str p, .nils, .int .i64 (.k (.negSucc 0))] => curPath bd p
  | _ => false
def reqV (i : Nat) : List AV := [.str [.lit 3 5522759], .str [.lit 5 495807919208], .str [.lit 1 97], .str [.lit 1 47, .one (.bt 48 [(i, 1)] 0 0)], .nils, .int .i64 (.k (.negSucc 0))]
def zeroE : List AV := [.str [], .str [], .str [], .str [], .nils, .int .i64 (.k 0), .int .i64 (.k 0), .nils, .int .i64 (.k 0), .str [], .int .i64 (.k 0), .int .i64 (.k 0)]
def rowCC : List AV := [.str [.lit 13 8591132755005834000318479950179], .str [.lit 9 889867771414092210541]]
def entV (i c : Nat) (s : SS) : List AV := reqV i ++ [.int .i64 (.k 200), .sl c (.k 0) (.k 1) (.ge (.k 1)) 2, .int .i64 (.k (.negSucc 0)), .str s, .int .i64 (.k 0), .int .i64 (.k 0)]
def isCC (X : AB) : Option Unit := match X with
  | .row cs => bc (sameRow cs rowCC) (some ()) none
  | _ => none
def isHd (j : Nat) (X : AB) : Option Unit := match X with
  | .lt k [] => bc (Nat.beq k (Nat.add 20 j)) (some ()) none
  | _ => none
def rdHd : List Nat → Nat → M Unit
  | [], _ => ret ()
  | b :: l, j => (rd b).bind fun A => (lift "store: a row of fields" (isHd j A)).bind fun _ => rdHd l (Nat.succ j)
def isLen (i : Nat) (l : List Nat) : Option Unit := bc (Nat.beq l.length i) (some ()) none
/-- the store's rows are there, in the round i -/
def stSee (k b : Nat) (l : List Nat) (i : Nat) : M Unit := (lift "store: how many" (isLen i l)).bind fun _ => (rd b).bind fun A => (lift "store: entries" (isEn k l A)).bind fun _ => rdHd l 0
def hitA (bd : Bd) (g b : Nat) (l : List Nat) (i : Nat) : M AV := (wr b none).bind fun _ => (nw (.lt 7 l)).bind fun b' => (nw (.row rowCC)).bind fun c =>
  (wr g (some (.lt 11 (b' :: l)))).bind fun _ => ret (.tup [.agg (entV (Nat.add 220 i) c [.var 15]), .bool true])
def stGet (bd : Bd) (call : Nat → List AV → M AV) (g : Nat) (q : List AV) : M AV := (rd g).bind fun X => match stRoot X with
  | none => call 275 [.ptr g (.k 0), .agg q, .tup []]
  | some (k, b, l) => (lift "store: get" (bc (isReq bd q) (bc (Nat.beq k 0) (turnOf bd) none) none)).bind fun i => (stSee k b l i).bind fun _ =>
    bc (flag0 bd 70) (ret (.tup [.agg zeroE, .bool false])) (bc (flag bd 70) (hitA bd g b l i) (no "store: is it there?"))
def isEnt (bd : Bd) (e : List AV) : Option (Nat × SS) := match e with
  | a :: b :: c :: d :: f :: g :: .int .i64 (.k (.ofNat 200)) :: .sl h (.k 0) (.k 1) _ 2 :: .int .i64 (.k (.negSucc 0)) :: .str body :: .int .i64 (.k 0) :: .int .i64 (.k 0) :: [] => bc (isReq bd [a, b, c, d, f, g]) (some (h, body)) none
  | _ => none
/-- is it this round's content, or nothing, where that is the content? -/
def isBody (bd : Bd) (i : Nat) (s : SS) : Option Unit := match s with
  | [.var j] => bc (Nat.beq i j) (some ()) none
  | [] => (match lget bd i with
    | some (_, .ofNat 0) => some ()
    | _ => none)
  | _ => none
/-- does it fit? -/
def stFits (bd : Bd) (i : Nat) : Option Unit := bc (Nat.ble i 14) (bc (isT (SI.le bd (.lin 133 [(i, 1)]) (.lin 0 [(33, 1)]))) (some ()) none) none
def stTurn (bd : Bd) (k : Nat) : Option Nat := bc (bc (Nat.beq k 1) true (bc (flag0 bd 70) (Nat.beq k 0) false)) (turnOf bd) none
def stNew (bd : Bd) (call : Nat → List AV → M AV) (g : Nat) (e : List AV) : M AV := (rd g).bind fun X => match stRoot X with
  | none => call 240 [.ptr g (.k 0), .agg e, .tup []]
  | some (k, b, l) => (lift "store: entry" (isEnt bd e)).bind fun hb => (rd hb.1).bind fun F => (lift "store: its fields" (isCC F)).bind fun _ =>
    (lift "store: put" (stTurn bd k)).bind fun i => (lift "store: its content" (isBody bd i hb.2)).bind fun _ => (lift "store: fits" (stFits bd i)).bind fun _ => (stSee k b l i).bind fun _ =>
    (wr b none).bind fun _ => (nw (.lt (Nat.add 20 i) [])).bind fun c => (nw (.lt 8 (l ++ [c]))).bind fun b' => (wr g (some (.lt 12 (b' :: (l ++ [c]))))).bind fun _ => ret (.bool true)
def stLen (call : Nat → List AV → M AV) (g : Nat) : M AV := (rd g).bind fun X => match stRoot X with
  | none => call 52 [.ptr g (.k 0), .tup []]
  | some (k, b, l) => (rd b).bind fun A => (lift "store: len" (isEn k l A)).bind fun _ => ret (.int .i64 (.lin 0 [(Nat.add 74 k, 1)]))
/-- the same, and what is done with what is not known -/
def extW (P : Program) (bd : Bd) (call : Nat → List AV → M AV) (f : Nat) (args : List AV) : Option (M AV) :=
  match f, args with
  | 12, [.int .i64 (.lin 0 [(i, 1)]), .int .i64 (.k lo), .int .i64 (.k hi)] => ob (withinL bd i lo hi) fun a => some (ret a)
  | 55, [.int .i64 (.lin n v)] => ob (itoaA bd (.lin n v)) fun a => some (ret a)
  | 209, [b, .str s] => ob (encP bd s) fun T => some (textM bd b T)
  | 168, [.ptr t (.k 0), .agg [.str n, .str v]] => some (findM bd call t n v)
  | 171, [.ptr t (.k 0), .agg [.str n, .str v]] => some (addM bd call t n v)
  | 359, [.ptr t (.k 0), .int .i64 (.lin 61 [(p, 1)])] => some (getM bd t p)
  | 275, [.ptr g (.k 0), .agg q] => some (stGet bd call g q)
  | 240, [.ptr g (.k 0), .agg e] => some (stNew bd call g e)
  | 52, [.ptr g (.k 0)] => some (stLen call g)
  | f, args => extB P bd call f args
end
end Go.AM
namespace Go.AM
set_option linter.unusedVariables false
/-! # TopBudget: single letters -/
section
variable (D : Dat)
theorem m_lp {t : Nat} (h : t ≤ 14) : D.m (200 + t) = D.lp t := by
  unfold Dat.m
  rw [if_neg (by omega)]
  rw [if_neg (by omega)]
  rw [if_neg (by omega)]
  rw [if_neg (by omega)]
  rw [if_neg (by omega)]
  rw [if_neg (by omega)]
  rw [if_neg (by omega)]
  rw [if_neg (by omega)]
  rw [if_neg (by omega)]
  rw [if_neg (by omega)]
  rw [if_neg (by omega)]
  rw [if_neg (by omega)]
  rw [if_neg (by omega)]
  rw [if_neg (by omega)]
  rw [if_pos (by omega)]
  rw [show 200 + t - 200 = t by omega]
theorem m_dg {t : Nat} (h : t ≤ 14) : D.m (220 + t) = D.dg t := by
  unfold Dat.m
  rw [if_neg (by omega)]
  rw [if_neg (by omega)]
  rw [if_neg (by omega)]
  rw [if_neg (by omega)]
  rw [if_neg (by omega)]
  rw [if_neg (by omega)]
  rw [if_neg (by omega)]
  rw [if_neg (by omega)]
  rw [if_neg (by omega)]
  rw [if_neg (by omega)]
  rw [if_neg (by omega)]
  rw [if_neg (by omega)]
  rw [if_neg (by omega)]
  rw [if_neg (by omega)]
  rw [if_neg (by omega)]
  rw [if_pos (by omega)]
  rw [show 220 + t - 220 = t by omega]
theorem m_sp {t : Nat} (h : t ≤ 14) : D.m (240 + t) = D.sp t := by
  unfold Dat.m
  rw [if_neg (by omega)]
  rw [if_neg (by omega)]
  rw [if_neg (by omega)]
  rw [if_neg (by omega)]
  rw [if_neg (by omega)]
  rw [if_neg (by omega)]
  rw [if_neg (by omega)]
  rw [if_neg (by omega)]
  rw [if_neg (by omega)]
  rw [if_neg (by omega)]
  rw [if_neg (by omega)]
  rw [if_neg (by omega)]
  rw [if_neg (by omega)]
  rw [if_neg (by omega)]
  rw [if_neg (by omega)]
  rw [if_neg (by omega)]
  rw [if_pos (by omega)]
  rw [show 240 + t - 240 = t by omega]
theorem m_tl {k : Nat} (h : k < 4) : D.m (48 + k) = (tabF k (D.dsK k)).length := by
  unfold Dat.m
  rw [if_neg (by omega)]
  rw [if_neg (by omega)]
  rw [if_neg (by omega)]
  rw [if_neg (by omega)]
  rw [if_neg (by omega)]
  rw [if_pos (by omega)]
  rw [show 48 + k - 48 = k by omega]
theorem m_ts {k : Nat} (h : k < 4) : D.m (52 + k) = sizeF (tabF k (D.dsK k)) := by
  unfold Dat.m
  rw [if_neg (by omega)]
  rw [if_neg (by omega)]
  rw [if_neg (by omega)]
  rw [if_neg (by omega)]
  rw [if_neg (by omega)]
  rw [if_neg (by omega)]
  rw [if_pos (by omega)]
  rw [show 52 + k - 52 = k by omega]
theorem m_pos {k j : Nat} (h : k < 4) (hj : j < 3) : D.m (56 + (3 * k + j)) = posF k j D.cur (D.dsK k) := by
  unfold Dat.m
  rw [if_neg (by omega)]
  rw [if_neg (by omega)]
  rw [if_neg (by omega)]
  rw [if_neg (by omega)]
  rw [if_neg (by omega)]
  rw [if_neg (by omega)]
  rw [if_neg (by omega)]
  rw [if_pos (by omega)]
  rw [show (56 + (3 * k + j) - 56) / 3 = k by omega, show (56 + (3 * k + j) - 56) % 3 = j by omega]
theorem m_slack {p : Nat} (h : p < 3) : D.m (71 + p) = D.bud - cost (D.esP p) := by
  unfold Dat.m
  rw [if_neg (by omega)]
  rw [if_neg (by omega)]
  rw [if_neg (by omega)]
  rw [if_neg (by omega)]
  rw [if_neg (by omega)]
  rw [if_neg (by omega)]
  rw [if_neg (by omega)]
  rw [if_neg (by omega)]
  rw [if_neg (by omega)]
  rw [if_neg (by omega)]
  rw [if_neg (by omega)]
  rw [if_pos (by omega)]
  rw [show 71 + p - 71 = p by omega]
theorem m_len {p : Nat} (h : p < 3) : D.m (74 + p) = (D.esP p).length := by
  unfold Dat.m
  rw [if_neg (by omega)]
  rw [if_neg (by omega)]
  rw [if_neg (by omega)]
  rw [if_neg (by omega)]
  rw [if_neg (by omega)]
  rw [if_neg (by omega)]
  rw [if_neg (by omega)]
  rw [if_neg (by omega)]
  rw [if_neg (by omega)]
  rw [if_neg (by omega)]
  rw [if_neg (by omega)]
  rw [if_neg (by omega)]
  rw [if_pos (by omega)]
  rw [show 74 + p - 74 = p by omega]
theorem m_bud : D.m 33 = D.bud := rfl
theorem m_bI : D.m 34 = D.bI := rfl
theorem m_ln : D.m 36 = D.ln := rfl
theorem m_sn : D.m 37 = D.sn := rfl
theorem m_i : D.m 68 = D.i := rfl
theorem m_known : D.m 69 = if D.known then 1 else 0 := rfl
theorem m_found : D.m 70 = if D.found then 1 else 0 := rfl
theorem m_dif : D.m 142 = D.bud - (D.sz D.i : Nat) := rfl
theorem m_q {j : Nat} (h : 38 ≤ j) (h2 : j < 48) : D.m (j) = D.q j := by
  unfold Dat.m
  rw [if_neg (by omega)]
  rw [if_neg (by omega)]
  rw [if_neg (by omega)]
  rw [if_neg (by omega)]
  rw [if_pos (by omega)]
theorem n_of {j : Nat} (h : 31 < j) : (nuD D).n j = D.m j := by unfold Vl.n; rw [if_neg (by omega)]; rfl
theorem n_sz {t : Nat} (h : t ≤ 14) : (nuD D).n t = (D.sz t : Nat) := by
  unfold Vl.n; rw [if_pos (by omega)]
  show (((if t ≤ 14 then D.zs t else if t = 15 then D.fb else []) : List UInt8).length : Int) = _
  rw [if_pos h]; simp [Dat.zs]
end
section
variable {D : Dat} {bd : Bd}
theorem turn_is (ok : (nuD D).Ok bd) {t : Nat} (h : turnOf bd = some t) : t = D.i := by
  have := SI.turnOf_den ok h
  rw [nuD_m, m_i] at this
  omega
theorem flag69 (ok : (nuD D).Ok bd) (h : flag bd 69 = true) : D.known = true := by
  have := flag_den ok (by omega) h
  rw [nuD_m, m_known] at this
  cases hk : D.known with
  | true => rfl
  | false => rw [hk] at this; simp at this
theorem flag69n (ok : (nuD D).Ok bd) (h : flag0 bd 69 = true) : D.known = false := by
  have := flag0_den ok (by omega) h
  rw [nuD_m, m_known] at this
  cases hk : D.known with
  | false => rfl
  | true => rw [hk] at this; simp at this
theorem flag70 (ok : (nuD D).Ok bd) (h : flag bd 70 = true) : D.found = true := by
  have := flag_den ok (by omega) h
  rw [nuD_m, m_found] at this
  cases hk : D.found with
  | true => rfl
  | false => rw [hk] at this; simp at this
theorem flag70n (ok : (nuD D).Ok bd) (h : flag0 bd 70 = true) : D.found = false := by
  have := flag0_den ok (by omega) h
  rw [nuD_m, m_found] at this
  cases hk : D.found with
  | false => rfl
  | true => rw [hk] at this; simp at this
end
end Go.AM
namespace Go.AM
open Go Go.Proofs
set_option linter.unusedVariables false
/-! # TopBudget: a digit written; a path in a block of fields; what is handed in, made to lie within bounds -/
theorem okNil {ν : Vl} : ν.Ok ([] : Bd) := fun i lo hi h => by rw [lget_eq] at h; simp at h
noncomputable def chkItoa (d : Nat) (A : Ans) : Bool := match A with
  | .ok (.str [.lit l n]) _ _ D => Nat.beq l 1 && (Nat.beq n (48 + d) && wrOnly [] 6 D)
  | _ => false
noncomputable def runItoa (d : Nat) : Ans := callG (CX []) extIsB 1000 55 [.int .i64 (.k (.ofNat d))] fin 6 .leaf []
set_option maxRecDepth 100000 in
theorem runItoa_ok : (List.range 10).all (fun d => chkItoa d (runItoa d)) = true := by kernel_rfl
theorem chkItoa_spec {d : Nat} {A : Ans} (h : chkItoa d A = true) : ∃ nx H D, A = .ok (.str [.lit 1 (48 + d)]) nx H D ∧ wrOnly [] 6 D = true := by
  unfold chkItoa at h
  split at h
  · rename_i l n nx H D
    simp only [Bool.and_eq_true] at h
    obtain ⟨h1, h2, h3⟩ := h
    have h1 := Nat.eq_of_beq_eq_true h1
    have h2 := Nat.eq_of_beq_eq_true h2
    subst h1; subst h2
    exact ⟨nx, H, D, rfl, h3⟩
  · cases h
section
variable {C : Cx} {ν : Vl} {ρ : Nm} {nx : Nat} {H : T AB} {L : Log} {w : World} {k : AV → Nat → T AB → Log → Ans} {z : Ans} {vs : List Value} {o : Oper} {a : Act}
theorem within0_den (ok : ν.Ok C.bd) {lo hi : Int} {e : SI} (h : within0 C.bd lo hi e = true) : lo ≤ e.den ν ∧ e.den ν ≤ hi := by
  unfold within0 at h
  split at h
  · rename_i l u e1 e2
    have h1 := SI.lo_den ok e1
    have h2 := SI.hi_den ok e2
    obtain ⟨a1, a2⟩ := bc2 h
    rw [ile_eq] at a1 a2
    have a1 := of_decide_eq_true a1
    have a2 := of_decide_eq_true a2
    omega
  · cases h
/-- the run with no blocks -/
theorem HR.bare (hr : HR ν ρ nx H w) {ν2 : Vl} : HR ν2 (sig ρ []) 6 .leaf w := hr.small (ν2 := ν2) [] [] rfl (fun i A p h => by simp at h) (fun i j p q h => by simp at h)
theorem sig_top {ps : List (Nat × Nat)} {c : Nat} (h : 6 + ps.length ≤ c) : sig ρ ps c = .none := by
  unfold sig; rw [if_neg (by omega)]; exact List.getElem?_eq_none (by omega)
set_option maxRecDepth 100000 in
theorem ext_itoa (ok : ν.Ok C.bd) (hP : C.P = Tryz.prog) (hr : HR ν ρ nx H w) (hg : Glob ρ) {n : Int} {v : List (Nat × Int)} (hv : VRs ν ρ [.int .i64 (.lin n v)] vs) {x : AV} (hx : itoaA C.bd (.lin n v) = some x) (h : (M.ret x : M AV) k nx H L = z) :
    OpOk C ν ρ nx L w k z o a ((callFunc 55 ⟨vs⟩).run C.P w) := by
  unfold itoaA at hx
  split at hx
  case h_2 => cases hx
  rename_i _ i he
  cases he
  obtain ⟨hin, hx⟩ := bc_some hx
  cases hx
  obtain ⟨b1, b2⟩ := within0_den ok hin
  obtain ⟨v1, l1, rfl, e1, h1⟩ := hv.cons
  cases h1.nil
  obtain ⟨d, hd⟩ := nat_of b1
  have hd9 : d ≤ 9 := by omega
  have e1 : v1 = .int .i64 (d : Int) := by rw [← hd]; exact e1
  subst e1
  obtain ⟨n3, H3, D, hrun, hD⟩ := chkItoa_spec (List.all_eq_true.1 runItoa_ok d (List.mem_range.2 (by omega)))
  intro next Q hn
  rw [hP]
  refine small_run okNil hrun (hr.bare (ν2 := nu0)) (sig_glob hg) (VRs.mk rfl VRs.mk0) fun σ' v w' _ hv' hr3 hst => ?_
  obtain ⟨hr', hst'⟩ := hr.quiet hst hD (fun c hc => sig_top (by simpa using hc))
  refine hn _ nx H [] ρ v w' h .refl ?_ hr' hst'
  have hv' : v = strV (sden nu0 [.lit 1 (48 + d)]) := hv'
  rw [hv']
  show strV [UInt8.ofNat ((48 + d) % 256)] = strV [UInt8.ofNat ((SI.bt 48 [(i, 1)] 0 0).den ν).toNat]
  have hd' : 0 + (1 * ν.n i + 0) = (d : Int) := hd
  have : (SI.bt 48 [(i, 1)] 0 0).den ν = ((48 + d : Nat) : Int) := by
    show ((48 + (1 * ν.n i + 0)) / 256 ^ 0) % 256 * 2 ^ 0 = _
    simp; omega
  rw [this, Int.toNat_natCast, Nat.mod_eq_of_lt (by omega)]
end
/-! ## a path in a block of fields -/
def pathN (d : Nat) : Nat := 47 + 256 * (48 + d)
def encN (d : Nat) : Nat := 2 + 256 * pathN d
def bdT : Bd := (List.range 17).map fun j => if j = 16 then (0, 100000) else (0, 0)
noncomputable def chkText (pre : SS) (len : SI) (n2 d : Nat) (A : Ans) : Bool := match A with
  | .ok (.sl b (.k o) l _ z) _ H D => ieq o 0 && (Nat.beq z 1 && (Nat.ble n2 b && (siEq l len && (wrOnly [] n2 D && (match H.get b with
    | some (.byt s) => (match stake bdT s l with
      | some t => lEq pcEq t (pre ++ [.lit 3 (encN d)])
      | none => false)
    | _ => false)))))
  | _ => false
noncomputable def runText0 (d : Nat) : Ans := callG (CX []) extIsB 1000 209 [.nils, .str [.lit 2 (pathN d)]] fin 6 (mkH 6 []) []
noncomputable def runText1 (d : Nat) : Ans := callG (CX bdT) extIsB 1000 209 [.sl 6 (.k 0) (.lin 0 [(16, 1)]) (.ge (.lin 0 [(16, 1)])) 1, .str [.lit 2 (pathN d)]] fin 7 (mkH 6 [.byt [.var 16]]) []
set_option maxRecDepth 100000 in
theorem runText0_ok : (List.range 10).all (fun d => chkText [] (.k 3) 6 d (runText0 d)) = true := by kernel_rfl
set_option maxRecDepth 100000 in
theorem runText1_ok : (List.range 10).all (fun d => chkText [.var 16] (.lin 3 [(16, 1)]) 7 d (runText1 d)) = true := by kernel_rfl
theorem chkText_spec {pre : SS} {len : SI} {n2 d : Nat} {A : Ans} (h : chkText pre len n2 d A = true) : ∃ b cap nx H D s, A = .ok (.sl b (.k 0) len cap 1) nx H D ∧ n2 ≤ b ∧ wrOnly [] n2 D = true ∧ H.get b = some (.byt s) ∧ stake bdT s len = some (pre ++ [.lit 3 (encN d)]) := by
  unfold chkText at h
  split at h
  · rename_i b o l cap z nx H D
    simp only [Bool.and_eq_true] at h
    obtain ⟨h1, h2, h3, h4, h5, h6⟩ := h
    rw [ieq_eq] at h1
    have h1 := of_decide_eq_true h1
    have h2 := Nat.eq_of_beq_eq_true h2
    have h3 := Nat.le_of_ble_eq_true h3
    have h4 := siEq_of h4
    subst h1; subst h2; subst h4
    split at h6
    · rename_i s hs
      split at h6
      · rename_i t ht
        rw [lEq_of pcEq_of h6] at ht
        exact ⟨b, cap, nx, H, D, s, rfl, h3, h5, hs, ht⟩
      · cases h6
    · cases h6
  · cases h
theorem okT {ν : Vl} (h : ((ν.x 16).length : Int) ≤ 100000) (h0 : ∀ t, t < 16 → (ν.x t).length = 0) : ν.Ok bdT := by
  intro i lo hi he
  rw [lget_eq] at he
  have hi17 : i < 17 := by have := (List.getElem?_eq_some_iff.1 he).1; simpa [bdT] using this
  have e : ν.n i = ((ν.x i).length : Int) := by unfold Vl.n; rw [if_pos (by omega)]
  have he : (if i = 16 then ((0 : Int), (100000 : Int)) else (0, 0)) = (lo, hi) := by
    have : bdT[i]? = some (if i = 16 then (0, 100000) else (0, 0)) := by unfold bdT; rw [List.getElem?_map, List.getElem?_range hi17]; rfl
    rw [this] at he; simpa using he
  rw [e]
  by_cases h16 : i = 16
  · subst h16; rw [if_pos rfl] at he; cases he; omega
  · rw [if_neg h16] at he; cases he; have := h0 i (by omega); omega
section
variable {C : Cx} {ν : Vl} {ρ : Nm} {nx : Nat} {H : T AB} {L : Log} {w : World} {k : AV → Nat → T AB → Log → Ans} {z : Ans} {vs : List Value} {o : Oper} {a : Act}
theorem isPath_den (ok : ν.Ok C.bd) {s : SS} {i : Nat} (h : isPath C.bd s = some i) : ∃ d : Nat, d ≤ 9 ∧ ν.n i = (d : Int) ∧ sden ν s = litB 2 (pathN d) ∧ s = [.lit 1 47, .one (.bt 48 [(i, 1)] 0 0)] := by
  unfold isPath at h
  split at h
  case h_2 => cases h
  rename_i j
  obtain ⟨hin, h⟩ := bc_some h
  cases h
  obtain ⟨b1, b2⟩ := within0_den ok hin
  have b1 : (0 : Int) ≤ 0 + (1 * ν.n i + 0) := b1
  have b2 : 0 + (1 * ν.n i + 0) ≤ 9 := b2
  obtain ⟨d, hd⟩ := nat_of (show (0 : Int) ≤ ν.n i by omega)
  have hd9 : d ≤ 9 := by omega
  refine ⟨d, hd9, hd, ?_, rfl⟩
  have : (SI.bt 48 [(i, 1)] 0 0).den ν = ((48 + d : Nat) : Int) := by
    show ((48 + (1 * ν.n i + 0)) / 256 ^ 0) % 256 * 2 ^ 0 = _
    simp; omega
  show [UInt8.ofNat (47 % 256)] ++ ([UInt8.ofNat ((SI.bt 48 [(i, 1)] 0 0).den ν).toNat] ++ []) = [UInt8.ofNat (pathN d % 256), UInt8.ofNat (pathN d / 256 % 256)]
  rw [this, Int.toNat_natCast]
  have e1 : pathN d % 256 = 47 := by unfold pathN; omega
  have e2 : pathN d / 256 % 256 = 48 + d := by unfold pathN; omega
  rw [e1, e2]
  rfl
set_option maxRecDepth 100000 in
theorem ext_text (ok : ν.Ok C.bd) (hP : C.P = Tryz.prog) (hr : HR ν ρ nx H w) (hg : Glob ρ) (hz : Yes z) {b : AV} {s T : SS} (hv : VRs ν ρ [b, .str s] vs) (hT : encP C.bd s = some T) (h : textM C.bd b T k nx H L = z) :
    OpOk C ν ρ nx L w k z o a ((callFunc 209 ⟨vs⟩).run C.P w) := by
  obtain ⟨vb, l, rfl, hb, hl⟩ := hv.cons
  obtain ⟨sv, l2, rfl, hs, hl2⟩ := hl.cons
  cases hl2.nil
  obtain ⟨i, hi, hT⟩ := ob_some hT
  cases hT
  obtain ⟨d, hd9, hd, hsd, hse⟩ := isPath_den ok hi
  have hs : sv = strV (sden ν s) := hs
  rw [hsd] at hs
  have hTd : sden ν (scat [.lit 1 2] s) = litB 3 (encN d) := by
    rw [scat_den, hsd]
    show [UInt8.ofNat (2 % 256)] ++ [] ++ litB 2 (pathN d) = UInt8.ofNat (encN d % 256) :: litB 2 (encN d / 256)
    have e1 : encN d % 256 = 2 := by unfold encN; omega
    have e2 : encN d / 256 = pathN d := by unfold encN; omega
    rw [e1, e2]; rfl
  -- the end
  have fin2 : ∀ {ν2 : Vl} {n2 n3 : Nat} {σ σ' : Nm} {b2 : Nat} {cap2 : Cp} {len2 need : SI} {H3 : T AB} {D D0 : Log} {s2 pre tt : SS} {old : List UInt8} {v : Value} {w' : World} {next : Act → World → Prop}, ν2.Ok bdT →
      (∀ c, n2 ≤ c → σ c = .none) → wrOnly [] n2 D = true → n2 ≤ b2 → H3.get b2 = some (.byt s2) → stake bdT s2 len2 = some (pre ++ [.lit 3 (encN d)]) → sden ν2 pre = old → len2.den ν2 = ((old.length + 3 : Nat) : Int) →
      VR ν2 σ' (.sl b2 (.k 0) len2 cap2 1) v → HR ν2 σ' n3 H3 w' → Stp σ w σ' w' D → need.den ν = ((old.length + 3 : Nat) : Int) → sden ν tt = old ++ litB 3 (encN d) → appNew need (.bytes tt) 1 k nx H (D0 ++ L) = z →
      (∀ x nx' H' D ρ' v w', k x nx' H' (D ++ L) = z → Low nx ρ nx' ρ' → VR ν ρ' x v → HR ν ρ' nx' H' w' → Stp ρ w ρ' w' D → next (a.put o.dst v) w') → next (a.put o.dst v) w' := by
    intro ν2 n2 n3 σ σ' b2 cap2 len2 need H3 D D0 s2 pre tt old v w' next ok2 hσ hD hb2 hH3 hst hpre hlen hv' hr3 hstp hneed htt h hn
    obtain ⟨r, sz, of, n, c, q1, q2, q3, q4, q5, q6, rfl⟩ := hv'
    obtain ⟨r', sz', obj, p1, p2, p3⟩ := hr3.blk b2 _ hH3
    rw [q1] at p1; cases p1
    have hnn : n = old.length + 3 := by rw [hlen] at q3; omega
    subst hnn
    obtain ⟨t1, t2, t3⟩ := stake_den ok2 hst
    have hall : sden ν2 (pre ++ [.lit 3 (encN d)]) = old ++ litB 3 (encN d) := by
      have app : ∀ (a b : SS), sden ν2 (a ++ b) = sden ν2 a ++ sden ν2 b := by
        intro a b
        induction a with
        | nil => rfl
        | cons p a ih => show p.den ν2 ++ sden ν2 (a ++ b) = (p.den ν2 ++ sden ν2 a) ++ sden ν2 b; rw [ih, List.append_assoc]
      rw [app, hpre]
      show old ++ (litB 3 (encN d) ++ []) = _
      rw [List.append_nil]
    rw [hall] at t3
    have hcell : BR ν ρ (.byt tt) sz obj := by
      show cellsR _ _ _
      rw [htt, t3]
      have p3 : cellsR ((sden ν2 s2).map byteV) sz obj := p3
      refine cellsR.head (ws := ((sden ν2 s2).drop (len2.den ν2).toNat).map byteV) ?_
      rw [← List.map_append, List.take_append_drop]
      exact p3
    obtain ⟨hr', hst'⟩ := hr.one hstp hD hσ (hσ b2 hb2) q1 p2 hcell
    have hk : k (.sl nx (.k 0) need (.ge need) 1) (nx + 1) (H.put nx (some (.byt tt))) (((nx, true) :: D0) ++ L) = z := h
    refine hn _ (nx + 1) _ ((nx, true) :: D0) (extN ρ nx [(r, sz)]) _ w' hk (extN_low (new := [(r, sz)])) ?_ hr' (hst'.more (by simp))
    exact ⟨r, sz, of, old.length + 3, c, extN_at (new := [(r, sz)]) 0, q2, hneed, by show need.den ν ≤ _; rw [hneed]; omega, q5, q6, rfl⟩
  unfold textM at h
  split at h
  · obtain ⟨n, hn', h'⟩ := lift_ok hz h
    have hb : vb = .slice none 0 0 := hb
    subst hb
    have hnd := slen_den (ν := ν) hn'
    rw [hTd] at hnd
    obtain ⟨b2, cap2, n3, H3, D, s2, hrun, e1, e2, e3, e4⟩ := chkText_spec (List.all_eq_true.1 runText0_ok d (List.mem_range.2 (by omega)))
    intro next Q hn
    rw [hP]
    refine small_run okNil hrun (hr.bare (ν2 := nu0)) (sig_glob hg) (VRs.mk rfl (VRs.mk (by rw [hs]; show _ = strV (sden nu0 [.lit 2 (pathN d)]); simp [sden, Pc.den]) VRs.mk0)) fun σ' v w' _ hv' hr3 hst => ?_
    exact fin2 (ν2 := nu0) (pre := []) (old := []) (D0 := []) (okT (by simp [nu0]) (by simp [nu0])) (fun c hc => sig_top (by simpa using hc)) e2 e1 e3 e4 rfl rfl hv' hr3 hst (by rw [hnd]; simp) (by rw [hTd]; rfl) h' hn
  · rename_i bb off len cap zz
    rcases bcM_ok h with ⟨hq, h'⟩ | ⟨_, h'⟩
    case inr => exact (hz _ h'.symm).elim
    have hq := Nat.eq_of_beq_eq_true hq
    subst hq
    obtain ⟨A, hA, h2⟩ := rd_ok hz h'
    obtain ⟨⟨need, tt⟩, hold, h3⟩ := lift_ok hz h2
    obtain ⟨r, sz, of, n, c, hp, ho, hlen, hcap, hnc, hsz, rfl⟩ := hb
    unfold textOld at hold
    split at hold
    case h_2 => cases hold
    rename_i sb
    obtain ⟨t, ht, hold⟩ := ob_some hold
    obtain ⟨nT, hnT, hold⟩ := ob_some hold
    obtain ⟨nd, hnd, hold⟩ := ob_some hold
    obtain ⟨hfew, hold⟩ := bc_some hold
    cases hold
    have hfw : len.den ν ≤ 100000 := by
      obtain ⟨u, hu, hf⟩ := ob_some (isT_some hfew)
      have := SI.hi_den ok hu
      cases hf' : ile u 100000 with
      | false => rw [hf'] at hf; cases hf
      | true => rw [ile_eq] at hf'; have := of_decide_eq_true hf'; omega
    obtain ⟨t1, t2, t3⟩ := stake_den ok ht
    obtain ⟨r', sz', obj, k1, k2, k3⟩ := hr.blk bb _ hA
    rw [hp] at k1; cases k1
    have htl : (sden ν t).length = n := by rw [t3, hlen, List.length_take, Int.toNat_natCast]; rw [hlen] at t2; omega
    let ν2 : Vl := nuS (fun _ => sden ν t) 0 (fun _ => 0) (fun _ => 0) 0
    have hx16 : ν2.x 16 = sden ν t := nuS_x (Nat.le_refl _)
    have hn16 : ν2.n 16 = (n : Int) := by rw [nuS_t (Nat.le_refl _) (by omega), htl]
    have hd16 : sden ν2 [.var 16] = sden ν t := by simp [sden, Pc.den, Vl.t, hx16]
    have ok2 : ν2.Ok bdT := okT (by rw [hx16, htl]; omega) (fun t ht => by show ((if 16 ≤ t then _ else []) : List UInt8).length = 0; rw [if_neg (by omega)]; rfl)
    obtain ⟨b2, cap2, n3, H3, D, s2, hrun, e1, e2, e3, e4⟩ := chkText_spec (List.all_eq_true.1 runText1_ok d (List.mem_range.2 (by omega)))
    have hr2 : HR ν2 (sig ρ [(r, sz)]) 7 (mkH 6 [.byt [.var 16]]) w := hr.small [.byt [.var 16]] [(r, sz)] rfl (fun i A p h1 h2 => by
      have hi : i = 0 := by have := (List.getElem?_eq_some_iff.1 h1).1; simpa using this
      subst hi
      simp at h1 h2
      subst h1; subst h2
      refine ⟨obj, k2, ?_⟩
      show cellsR _ _ _
      rw [hd16, t3]
      have k3 : cellsR ((sden ν sb).map byteV) sz obj := k3
      refine cellsR.head (ws := ((sden ν sb).drop (len.den ν).toNat).map byteV) ?_
      rw [← List.map_append, List.take_append_drop]
      exact k3) (fun i j p q h1 h2 _ => by
      have hi : i = 0 := by have := (List.getElem?_eq_some_iff.1 h1).1; simpa using this
      have hj : j = 0 := by have := (List.getElem?_eq_some_iff.1 h2).1; simpa using this
      omega)
    intro next Q hn
    rw [hP]
    have hsl : VR ν2 (sig ρ [(r, sz)]) (.sl 6 (.k 0) (.lin 0 [(16, 1)]) (.ge (.lin 0 [(16, 1)])) 1) (.slice (some ⟨r, of, none⟩) n c) := by
      have hl16 : (SI.lin 0 [(16, 1)]).den ν2 = (n : Int) := by show 0 + (1 * ν2.n 16 + 0) = _; rw [hn16]; omega
      exact ⟨r, sz, of, n, c, sig_at (ps := [(r, sz)]) 0, ho, hl16, by show (SI.lin 0 [(16, 1)]).den ν2 ≤ _; rw [hl16]; omega, hnc, hsz, rfl⟩
    refine small_run ok2 hrun hr2 (sig_glob hg) (VRs.mk hsl (VRs.mk (by rw [hs]; show _ = strV (sden ν2 [.lit 2 (pathN d)]); simp [sden, Pc.den]) VRs.mk0)) fun σ' v w' _ hv' hr3 hst => ?_
    have hneed := SI.add_den (ν := ν) hnd
    have hTn := slen_den (ν := ν) hnT
    rw [hTd] at hTn
    exact fin2 (ν2 := ν2) (pre := [.var 16]) (old := sden ν t) (D0 := [(bb, false)]) ok2 (fun c hc => sig_top (by simpa using hc)) e2 e1 e3 e4 hd16 (by rw [htl]; show 3 + (1 * ν2.n 16 + 0) = _; rw [hn16]; omega) hv' hr3 hst
      (by rw [hneed, hlen, hTn, htl]; simp) (by rw [scat_den, hTd]) h3 hn
  · exact (hz _ h.symm).elim
end
end Go.AM
namespace Go.AM
open Go Go.Proofs
set_option linter.unusedVariables false
/-! # TopBudget: what is handed in, made to lie within bounds -/
section
variable {C : Cx} {Dt : Dat} {ρ : Nm} {nx : Nat} {H : T AB} {L : Log} {w : World} {k : AV → Nat → T AB → Log → Ans} {z : Ans} {vs : List Value} {o : Oper} {a : Act}
theorem isIn_ok {a b i : Nat} (h : isIn a b i = true) : a ≤ i ∧ i ≤ b := by
  obtain ⟨h1, h2⟩ := bc2 h
  exact ⟨Nat.le_of_ble_eq_true h1, Nat.le_of_ble_eq_true h2⟩
theorem bc_or {α : Type} {b : Bool} {x y z : α} (h : bc b x y = z) : (b = true ∧ x = z) ∨ (b = false ∧ y = z) := by cases b <;> first | exact .inl ⟨rfl, h⟩ | exact .inr ⟨rfl, h⟩
theorem lh_ok {lo hi l h : Int} {b : Bool} (k : bc (ieq lo l) (bc (ieq hi h) b false) false = true) : lo = l ∧ hi = h ∧ b = true := by
  obtain ⟨h1, k⟩ := bc2 k
  obtain ⟨h2, h3⟩ := bc2 k
  rw [ieq_eq] at h1 h2
  exact ⟨of_decide_eq_true h1, of_decide_eq_true h2, h3⟩
theorem withinL_ok (ok : (nuD Dt).Ok C.bd) {i : Nat} {lo hi : Int} {x : AV} (h : withinL C.bd i lo hi = some x) : 0 ≤ lo ∧ lo ≤ hi ∧ hi ≤ 100000 ∧ ∃ e, x = .int .i64 e ∧ e.den (nuD Dt) = wth lo hi ((nuD Dt).n i) := by
  unfold withinL at h
  rcases bc_or h with ⟨h1, g⟩ | ⟨_, g⟩ <;> clear h
  · obtain ⟨rfl, rfl, h2⟩ := lh_ok h1
    clear h1
    obtain ⟨a1, a2⟩ := isIn_ok h2
    cases g
    refine ⟨by omega, by omega, by omega, _, rfl, ?_⟩
    show 0 + (1 * (nuD Dt).n (i + 20) + 0) = _
    obtain ⟨t, rfl⟩ : ∃ t, i = 200 + t := ⟨i - 200, by omega⟩
    rw [n_of _ (by omega), n_of _ (by omega), m_lp _ (by omega), show 200 + t + 20 = 220 + t by omega, m_dg _ (by omega)]
    show 0 + (1 * wth 0 9 (Dt.lp t) + 0) = _
    omega
  · rcases bc_or g with ⟨h1, h⟩ | ⟨_, h⟩ <;> clear g
    · obtain ⟨rfl, rfl, h2⟩ := lh_ok h1
      clear h1
      obtain ⟨a1, a2⟩ := isIn_ok h2
      obtain ⟨hl, g⟩ := bc_some h
      clear h
      obtain ⟨t, rfl⟩ : ∃ t, i = 240 + t := ⟨i - 240, by omega⟩
      have e1 : Nat.sub (240 + t) 240 = t := by show 240 + t - 240 = t; omega
      rw [e1] at hl g
      have hl := longer_den ok (by omega) hl
      rw [nuD_m, m_sn] at hl
      have hsz : (Dt.sz t : Int) = wth 0 4000 (Dt.sp t) := by
        have := wth_in (lo := 0) (hi := 4000) (n := Dt.sp t) (by omega)
        unfold Dat.sz; rw [if_pos (by omega)]; omega
      rw [n_of _ (by omega), m_sp _ (by omega), ← hsz]
      refine ⟨by omega, by omega, by omega, ?_⟩
      split at g
      · rename_i lo' e
        cases g
        have := (ok t _ _ e).2
        rw [n_sz _ (by omega)] at this
        refine ⟨_, rfl, ?_⟩
        show (0 : Int) = _
        have : (Dt.sz t : Int) ≤ 0 := this
        omega
      · cases g
        refine ⟨_, rfl, ?_⟩
        show 0 + (1 * (nuD Dt).n t + 0) = _
        rw [n_sz _ (by omega)]; omega
    · obtain ⟨h1, g⟩ := bc_some h
      clear h
      obtain ⟨rfl, rfl, h2⟩ := lh_ok h1
      clear h1
      have h2 := Nat.eq_of_beq_eq_true h2
      subst h2
      cases g
      refine ⟨by omega, by omega, by omega, _, rfl, ?_⟩
      show 0 + (1 * (nuD Dt).n 33 + 0) = _
      rw [n_of _ (by omega), n_of _ (by omega), m_bI, m_bud]
      show 0 + (1 * wth 0 3000 Dt.bI + 0) = _
      omega
theorem ext_withinL (ok : (nuD Dt).Ok C.bd) (hP : C.P = Tryz.prog) (hr : HR (nuD Dt) ρ nx H w) {i : Nat} {lo hi : Int} (hv : VRs (nuD Dt) ρ [.int .i64 (.lin 0 [(i, 1)]), .int .i64 (.k lo), .int .i64 (.k hi)] vs) {x : AV} (hx : withinL C.bd i lo hi = some x)
    (h : (M.ret x : M AV) k nx H L = z) : OpOk C (nuD Dt) ρ nx L w k z o a ((callFunc 12 ⟨vs⟩).run C.P w) := by
  obtain ⟨v1, l1, rfl, e1, h1⟩ := hv.cons
  obtain ⟨v2, l2, rfl, e2, h2⟩ := h1.cons
  obtain ⟨v3, l3, rfl, e3, h3⟩ := h2.cons
  cases h3.nil
  have e1 : v1 = .int .i64 (0 + (1 * (nuD Dt).n i + 0)) := e1
  have e2 : v2 = .int .i64 lo := e2
  have e3 : v3 = .int .i64 hi := e3
  subst e1; subst e2; subst e3
  obtain ⟨k1, k2, k3, e, rfl, he⟩ := withinL_ok ok hx
  rw [hP, hasBody_run fitP (by kernel_rfl)]
  intro next Q hn
  rw [Oper.upon_enter, hP]
  refine (within_any _ lo hi w k1 k2 k3).mono ?_
  rintro e' w' ⟨rfl, rfl⟩
  refine hn _ nx H [] ρ _ w' h .refl ?_ hr (.refl _ _ _)
  show Value.int .i64 _ = .int .i64 (e.den (nuD Dt))
  rw [he, show (0 : Int) + (1 * (nuD Dt).n i + 0) = (nuD Dt).n i by omega]
  rfl
end
end Go.AM
namespace Go.AM
open Go Go.Proofs
set_option linter.unusedVariables false
/-! # TopBudget: the tables, as runs over a few blocks show them -/
noncomputable section
def pathV (c : Nat) : List AV := [.str [.lit 5 448629141562], .str [.lit 1 47, .one (.bt 48 [(c, 1)] 0 0)]]
def authV : List AV := [.str [.lit 10 573553764997793127424314], .str [.lit 1 97]]
def viaV : List AV := [.str [.lit 3 6383990], .str [.lit 11 138315448040357010542305330]]
def clientR (ls : List Nat) : List AV := ls.flatMap pathV ++ authV
def originR : List Nat → List AV
  | [] => authV
  | [c] => viaV ++ (pathV c ++ authV)
  | c :: e :: l => pathV c ++ originR (e :: l)
def tabR (org : Bool) (ls : List Nat) : List AV := bc org (originR ls) (clientR ls)
def tabLen (org : Bool) (n : Nat) : Nat := bc org (n + 2) (n + 1)
def tabSize (org : Bool) (n : Nat) : Nat := bc org (39 * n + 89) (39 * n + 43)
def lsJ (n j : Nat) : List Nat := (List.range n).map fun t => bc (Nat.beq t j) 32 (80 + t)
def lsE (n : Nat) : List Nat := (List.range n).map fun t => 220 + t
def rootR (org : Bool) (n : Nat) : List AV := [.sl 7 (.k 0) (.k (.ofNat (tabLen org n))) (.ge (.k (.ofNat (tabLen org n)))) 2, .sl 8 (.k 0) (.k 61) (.ge (.k 61)) 2, .int .i64 (.k (.ofNat (tabSize org n))), .int .i64 (.k 4096)]
def tabH (org : Bool) (ls : List Nat) : List AB := [.row (rootR org ls.length), .row (tabR org ls), .row row186]
/-- digits, flags, texts -/
def bdP (sub : Nat) (y : Int) : Bd := (List.range 262).map fun j =>
  bc (Nat.beq j 30) (.ofNat sub, 4000) (bc (Nat.ble 16 j && Nat.ble j 31) (0, 4000) (bc (Nat.beq j 32) (0, 9) (bc (Nat.ble 80 j && Nat.ble j 94) (0, 9) (bc (Nat.ble 100 j && Nat.ble j 114) (1, 1) (bc (Nat.beq j 140) (0, y) (0, 0))))))
def bdP0 : Bd := (List.range 115).map fun j =>
  bc (Nat.beq j 32) (0, 9) (bc (Nat.ble 80 j && Nat.ble j 94) (0, 9) (bc (Nat.ble 100 j && Nat.ble j 114) (1, 1) (0, 0)))
def chkFind (p : Int) (b : Bool) (A : Ans) : Bool := match A with
  | .ok (.tup [.int .i64 (.k q), .bool c]) _ _ D => ieq q p && ((c == b) && wrOnly [] 9 D)
  | _ => false
theorem chkFind_spec {p : Int} {b : Bool} {A : Ans} (h : chkFind p b A = true) : ∃ nx H D, A = .ok (.tup [.int .i64 (.k p), .bool b]) nx H D ∧ wrOnly [] 9 D = true := by
  unfold chkFind at h
  split at h
  · rename_i q c nx H D
    simp only [Bool.and_eq_true] at h
    obtain ⟨h1, h2, h3⟩ := h
    rw [ieq_eq] at h1
    have h1 := of_decide_eq_true h1
    have h2 : c = b := by simpa using h2
    subst h1; subst h2
    exact ⟨nx, H, D, rfl, h3⟩
  · cases h
def runFind (org : Bool) (ls : List Nat) (f : List AV) : Ans := callG (CX bdP0) extIsB 1000 168 [.ptr 6 (.k 0), .agg f] fin 9 (mkH 6 (tabH org ls)) []
def expP (org : Bool) (n j : Nat) : Int := bc (Nat.beq j n) 4 (bc org (bc (Nat.beq (j + 1) n) (.ofNat (62 + n)) (.ofNat (62 + j))) (.ofNat (62 + j)))
def chkPath (org : Bool) (n j : Nat) : Bool := chkFind (expP org n j) (bc (Nat.beq j n) false true) (runFind org (lsJ n j) (pathV 32))
def chkAuth (org : Bool) (n : Nat) : Bool := chkFind (.ofNat (61 + tabLen org n)) true (runFind org (lsE n) authV)
def chkVia (n : Nat) : Bool := chkFind (.ofNat (61 + n)) true (runFind true (lsE n) viaV)
set_option maxRecDepth 100000 in
theorem findC_ok : (List.range 15).all (fun m => (List.range (m + 2)).all fun j => chkPath false (m + 1) j) = true := by kernel_rfl
set_option maxRecDepth 100000 in
theorem findO_ok : (List.range 15).all (fun m => (List.range (m + 2)).all fun j => chkPath true (m + 1) j) = true := by kernel_rfl
set_option maxRecDepth 100000 in
theorem findA_ok : (List.range 15).all (fun m => chkAuth false (m + 1) && (chkAuth true (m + 1) && chkVia (m + 1))) = true := by kernel_rfl
end
end Go.AM
