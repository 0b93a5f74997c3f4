import Derived.Test.YtpgfdoakehpnlaaGreatDoorAxS
set_option linter.unusedVariables false
set_option linter.unusedSimpArgs false
namespace Go.AM
open Go Go.Proofs
set_option linter.unusedVariables false
/-! # TopBudget: runs of store.Get and store.Put over patterns -/
noncomputable section
def reqA (i : Nat) : List AV := [.str [.lit 3 5522759], .str [.lit 5 495807919208], .str [.lit 1 97], .str [.lit 1 47, .one (.bt 48 [(i, 1)] 0 0)], .nils, .int .i64 (.k (.negSucc 0))]
def entA (i c : Nat) (s : SS) : List AV := reqA i ++ [.int .i64 (.k 200), .sl c (.k 0) (.k 1) (.ge (.k 1)) 2, .int .i64 (.k (.negSucc 0)), .str s, .int .i64 (.k 0), .int .i64 (.k 0)]
def zeroA : List AV := [.str [], .str [], .str [], .str [], .nils, .int .i64 (.k 0), .int .i64 (.k 0), .nils, .int .i64 (.k 0), .str [], .int .i64 (.k 0), .int .i64 (.k 0)]
def ccA : List AV := [.str [.lit 13 8591132755005834000318479950179], .str [.lit 9 889867771414092210541]]
/-- an entry's pattern: its digit's letter, its row of fields, its content -/
abbrev Pat := Nat × Nat × SS
def patA (p : Pat) : List AV := entA p.1 p.2.1 p.2.2
def rowA (l : List Pat) : List AV := l.flatMap patA
def pat (j c0 : Nat) (body : Nat → SS) (t : Nat) : Pat := (bc (Nat.beq t j) 32 (80 + t), c0 + t, body t)
def body0 (t : Nat) : SS := [.var (16 + t)]
/-- the same number? -/
def sameSI (x y : SI) : Bool := match x.sub y with
  | some (.k n) => ieq n 0
  | _ => false
def stRootA (n : Nat) (size bud : SI) : List AV := [bc (Nat.beq n 0) .nils (.sl 7 (.k 0) (.k (.ofNat n)) (.ge (.k (.ofNat n))) 12), .int .i64 size, .int .i64 bud]
def sumA (c : Nat) (l : List Nat) : SI := SI.mk (.ofNat c) (l.map fun t => (16 + t, 1))
/-- the root behind: a slice of a new row's head, the size, the budget -/
def rootSt (H : T AB) (n2 n : Nat) (size bud : SI) (row : List AV) : Bool := match H.get 6 with
  | some (.row [.sl b o l _ z, .int .i64 s, .int .i64 u]) => Nat.ble n2 b && (siEq o (.k 0) && (siEq l (.k (.ofNat n)) && (Nat.beq z 12 && (sameSI s size && (siEq u bud && rowIsA H b row)))))
  | _ => false
theorem rootSt_ok {H : T AB} {n2 n : Nat} {size bud : SI} {row : List AV} (h : rootSt H n2 n size bud row = true) : ∃ b cap s, n2 ≤ b ∧ H.get 6 = some (.row [.sl b (.k 0) (.k (.ofNat n)) cap 12, .int .i64 s, .int .i64 bud]) ∧ (∀ ν : Vl, s.den ν = size.den ν) ∧ H.get b = some (.row row) := by
  unfold rootSt at h
  split at h
  · rename_i b o l cap z s u e
    simp only [Bool.and_eq_true] at h
    obtain ⟨h1, h2, h3, h4, h5, h6, h7⟩ := h
    rw [e, siEq_of h2, siEq_of h3, Nat.eq_of_beq_eq_true h4, siEq_of h6]
    refine ⟨b, cap, s, Nat.le_of_ble_eq_true h1, rfl, fun ν => ?_, rowIsA_ok h7⟩
    unfold sameSI at h5
    split at h5
    · rename_i n hn
      have := SI.sub_den (ν := ν) hn
      rw [ieq_eq] at h5
      have h5 := of_decide_eq_true h5
      have e : (SI.k n).den ν = n := rfl
      omega
    · cases h5
  · cases h
/-- the row of fields of an entry -/
def fieldsOf (l : List AV) : Nat := match lget l 7 with
  | some (.sl c _ _ _ _) => c
  | _ => 0
/-! ## Get -/
def ordG (n j : Nat) : List Nat := j :: (List.range j ++ (List.range (n - j - 1)).map fun s => j + 1 + s)
def getH (n j : Nat) : List AB := .row (stRootA n (sumA (133 * n) (List.range n)) (.lin 0 [(140, 1)])) :: .row (rowA ((List.range n).map (pat j 8 body0))) :: List.replicate n (.row ccA)
def runSt (n j : Nat) : Ans := callG (CX (bdP 0 3000)) extIsB 1000 275 [.ptr 6 (.k 0), .agg (reqA 32)] fin (8 + n) (mkH 6 (getH n j)) []
def chkMiss (A : Ans) (n2 : Nat) : Bool := match A with
  | .ok (.tup [.agg l, .bool b]) _ _ D => bc b false (lEq (avEq 8) l zeroA && wrOnly [] n2 D)
  | _ => false
theorem chkMiss_spec {A : Ans} {n2 : Nat} (h : chkMiss A n2 = true) : ∃ nx H D, A = .ok (.tup [.agg zeroA, .bool false]) nx H D ∧ wrOnly [] n2 D = true := by
  unfold chkMiss at h
  split at h
  · rename_i l b nx H D
    cases b with
    | true => cases h
    | false =>
      have h : (lEq (avEq 8) l zeroA && wrOnly [] n2 D) = true := h
      rw [Bool.and_eq_true] at h
      rw [lEq_of (avEq_of 8) h.1]
      exact ⟨nx, H, D, rfl, h.2⟩
  · cases h
def chkHit (n j : Nat) (A : Ans) : Bool := match A with
  | .ok (.tup [.agg l, .bool b]) _ H D => b && (Nat.ble (8 + n) (fieldsOf l) && (lEq (avEq 8) l (entA 32 (fieldsOf l) (body0 j)) && (rowIsA H (fieldsOf l) ccA && (wrOnly [6, 7] (8 + n) D &&
      rootSt H (8 + n) n (sumA (133 * n) (List.range n)) (.lin 0 [(140, 1)]) (rowA ((ordG n j).map (pat j 8 body0)))))))
  | _ => false
theorem chkHit_spec {n j : Nat} {A : Ans} (h : chkHit n j A = true) : ∃ c nx H D b cap s, A = .ok (.tup [.agg (entA 32 c (body0 j)), .bool true]) nx H D ∧ 8 + n ≤ c ∧ H.get c = some (.row ccA) ∧ wrOnly [6, 7] (8 + n) D = true ∧
    8 + n ≤ b ∧ H.get 6 = some (.row [.sl b (.k 0) (.k (.ofNat n)) cap 12, .int .i64 s, .int .i64 (.lin 0 [(140, 1)])]) ∧ (∀ ν : Vl, s.den ν = (sumA (133 * n) (List.range n)).den ν) ∧ H.get b = some (.row (rowA ((ordG n j).map (pat j 8 body0)))) := by
  unfold chkHit at h
  split at h
  · rename_i l b nx H D
    simp only [Bool.and_eq_true] at h
    obtain ⟨h1, h2, h3, h4, h5, h6⟩ := h
    obtain ⟨b2, cap, s, k1, k2, k3, k4⟩ := rootSt_ok h6
    have h3 := lEq_of (avEq_of 8) h3
    subst h1
    generalize fieldsOf l = c at h2 h3 h4
    subst h3
    exact ⟨c, nx, H, D, b2, cap, s, rfl, Nat.le_of_ble_eq_true h2, rowIsA_ok h4, h5, k1, k2, k3, k4⟩
  · cases h
set_option maxRecDepth 100000 in
theorem miss_ok : (List.range 15).all (fun n => chkMiss (runSt n n) (8 + n)) = true := by kernel_rfl
set_option maxRecDepth 100000 in
theorem hit_ok : (List.range 15).all (fun n => (List.range n).all fun j => chkHit n j (runSt n j)) = true := by kernel_rfl
/-! ## Put: n entries are there, the first one is for the same request (j0 = 1) or none is (j0 = 0); e of the others go -/
def stayP (n j0 e : Nat) : List Nat := (List.range (n - j0 - e)).map fun s => j0 + s
def bodyP (n e sub : Nat) (t : Nat) : SS := bc (Nat.beq sub 1 && Nat.beq t (n - e)) [.var (16 + t), .var 30] [.var (16 + t)]
def jP (n j0 : Nat) : Nat := bc (Nat.beq j0 1) 0 n
def yP (n e sub : Nat) : SI := bc (Nat.beq sub 1) (.lin 133 [(16 + (n - e), 1)]) (.lin 0 [(140, 1)])
def allP (n sub : Nat) : SI := bc (Nat.beq sub 1) ((SI.add (sumA (133 * n) (List.range n)) (.lin 0 [(30, 1)])).getD (.k 0)) (sumA (133 * n) (List.range n))
def newP (n j0 e : Nat) : SI := (SI.add (sumA (133 * (n - j0 - e)) (stayP n j0 e)) (.lin 133 [(31, 1)])).getD (.k 0)
def budP (n j0 e sub : Nat) : SI := (SI.add (newP n j0 e) (yP n e sub)).getD (.k 0)
def putHs (n j0 e sub : Nat) : List AB := .row (stRootA n (allP n sub) (budP n j0 e sub)) :: .row (rowA ((List.range n).map (pat (jP n j0) 9 (bodyP n e sub)))) :: .row ccA :: List.replicate n (.row ccA)
def boundP (e : Nat) : Int := bc (Nat.beq e 0) 3000 132
def runPut (n j0 e sub : Nat) : Ans := callG (CX (bdP sub (boundP e))) extIsB 1000 240 [.ptr 6 (.k 0), .agg (entA 32 8 [.var 31])] fin (9 + n) (mkH 6 (putHs n j0 e sub)) []
def putRow (n j0 e sub c : Nat) : List AV := rowA ((32, c, [.var 31]) :: (stayP n j0 e).map (pat (jP n j0) 9 (bodyP n e sub)))
def rootC (H : T AB) : Nat := match H.get 6 with
  | some (.row (.sl b _ _ _ _ :: _)) => (match H.get b with
    | some (.row l) => fieldsOf l
    | _ => 0)
  | _ => 0
def chkPut (n j0 e sub : Nat) (A : Ans) : Bool := match A with
  | .ok (.bool b) _ H D => b && (Nat.ble (9 + n) (rootC H) && (rowIsA H (rootC H) ccA && (wrOnly [6, 7] (9 + n) D && rootSt H (9 + n) (n - j0 - e + 1) (newP n j0 e) (budP n j0 e sub) (putRow n j0 e sub (rootC H)))))
  | _ => false
theorem chkPut_spec {n j0 e sub : Nat} {A : Ans} (h : chkPut n j0 e sub A = true) : ∃ c nx H D b cap s, A = .ok (.bool true) nx H D ∧ 9 + n ≤ c ∧ H.get c = some (.row ccA) ∧ wrOnly [6, 7] (9 + n) D = true ∧
    9 + n ≤ b ∧ H.get 6 = some (.row [.sl b (.k 0) (.k (.ofNat (n - j0 - e + 1))) cap 12, .int .i64 s, .int .i64 (budP n j0 e sub)]) ∧ (∀ ν : Vl, s.den ν = (newP n j0 e).den ν) ∧ H.get b = some (.row (putRow n j0 e sub c)) := by
  unfold chkPut at h
  split at h
  · rename_i b nx H D
    simp only [Bool.and_eq_true] at h
    obtain ⟨h1, h2, h3, h4, h5⟩ := h
    obtain ⟨b2, cap, s, k1, k2, k3, k4⟩ := rootSt_ok h5
    subst h1
    exact ⟨_, nx, H, D, b2, cap, s, rfl, Nat.le_of_ble_eq_true h2, rowIsA_ok h3, h4, k1, k2, k3, k4⟩
  · cases h
set_option maxRecDepth 100000 in
theorem put_ok0 : (List.range 15).all (fun n => chkPut n 0 0 0 (runPut n 0 0 0) && bc (Nat.beq n 0) true (chkPut n 1 0 0 (runPut n 1 0 0))) = true := by kernel_rfl
def putAll (j0 sub : Nat) : Bool := (List.range 15).all fun n => (List.range (n - j0)).all fun e => chkPut n j0 (e + 1) sub (runPut n j0 (e + 1) sub)
end
end Go.AM
