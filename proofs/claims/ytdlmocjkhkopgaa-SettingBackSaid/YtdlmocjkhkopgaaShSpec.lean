/- The shapes, turned from w10: the plain function. -/
import Derived.Test.YtdlmocjkhkopgaaShKitC
import Derived.Deep.Onto
namespace Go.Proofs.Ytdlmocjkhkopgaa.Sh
open Go.ChangeShapes Go.WideShapes Go.ChangeAt Go.RowKit
set_option linter.unusedVariables false
set_option linter.unusedSimpArgs false
/-- The cells of n elements of C cells. -/
def rowsOf (V : Nat → Nat → Value) (C n : Nat) : List Value := (List.range (n * C)).map fun q => V (q / C) (q % C)
theorem rows_len (V : Nat → Nat → Value) (C n : Nat) : (rowsOf V C n).length = n * C := by simp [rowsOf]
theorem rows_get (V : Nat → Nat → Value) (C n q : Nat) (h : q < n * C) : (rowsOf V C n)[q]? = some (V (q / C) (q % C)) := by simp [rowsOf, h]
theorem rows_one {V : Nat → Nat → Value} {C n : Nat} (h : ∀ i j, j < C → (V i j).oneCell' = true) : ∀ u ∈ rowsOf V C n, u.oneCell' = true := fun u hu => by
  simp [rowsOf] at hu
  obtain ⟨q, hq, rfl⟩ := hu
  refine h _ _ (Nat.mod_lt _ ?_)
  rcases Nat.eq_zero_or_pos C with h0 | h0
  · subst h0; simp at hq
  · exact h0
def bothV (Y Z : Nat → Nat → Value) (n : Nat) : Nat → Nat → Value := fun i j => if i < n then Y i j else Z (i - n) j
theorem rows_both (Y Z : Nat → Nat → Value) (C n k : Nat) (hC : 0 < C) : rowsOf Y C n ++ rowsOf Z C k = rowsOf (bothV Y Z n) C (n + k) := by
  apply List.ext_getElem?
  intro j
  by_cases h1 : j < n * C
  · have h3 : j < (n + k) * C := by rw [Nat.add_mul]; omega
    have h4 : j / C < n := (Nat.div_lt_iff_lt_mul hC).2 h1
    rw [List.getElem?_append_left (by rw [rows_len]; exact h1), rows_get _ _ _ _ h1, rows_get _ _ _ _ h3, bothV, if_pos h4]
  · rw [List.getElem?_append_right (by rw [rows_len]; omega), rows_len]
    have h4 : ¬ j / C < n := fun h => h1 ((Nat.div_lt_iff_lt_mul hC).1 h)
    by_cases h2 : j < (n + k) * C
    · have h5 : j - n * C < k * C := by rw [Nat.add_mul] at h2; omega
      have e1 : j = (j - n * C) + n * C := by omega
      have e2 : j / C = (j - n * C) / C + n := by conv => lhs; rw [e1]; rw [Nat.add_mul_div_right _ _ hC]
      have e3 : j % C = (j - n * C) % C := by conv => lhs; rw [e1]; rw [Nat.add_mul_mod_self_right]
      rw [rows_get _ _ _ _ h5, rows_get _ _ _ _ h2, bothV, if_neg h4, e3, e2, Nat.add_sub_cancel]
    · have h5 : ¬ j - n * C < k * C := by rw [Nat.add_mul] at h2; omega
      rw [List.getElem?_eq_none (by rw [rows_len]; omega), List.getElem?_eq_none (by rw [rows_len]; omega)]
theorem row_ix {C i j : Nat} (hj : j < C) : (i * C + j) / C = i ∧ (i * C + j) % C = j := by
  refine ⟨?_, ?_⟩
  · rw [Nat.mul_comm, Nat.mul_add_div (by omega), Nat.div_eq_of_lt hj, Nat.add_zero]
  · rw [Nat.mul_comm, Nat.mul_add_mod, Nat.mod_eq_of_lt hj]
theorem row_lt {C i j n : Nat} (hi : i < n) (hj : j < C) : i * C + j < n * C := by
  have : (i + 1) * C ≤ n * C := Nat.mul_le_mul_right C hi
  rw [Nat.succ_mul] at this
  omega
/-- An own row can be read. -/
theorem rowy_own {w : World} {B n C : Nat} {e : TypeId} {v : Value} {V : Nat → Nat → Value} (h : w.ownsRow B e C v n (rowsOf V C n)) : Rowy w v n C V := by
  have hlt := h.lt
  rcases h.2 with ⟨rfl, rfl⟩ | ⟨g, cap, cur, rfl, hB, hh, hkc, hm, hs, ht⟩
  · exact ⟨_, _, rfl, Nat.le_refl _, Nat.zero_le _, fun h => absurd h (Nat.lt_irrefl _)⟩
  · refine ⟨_, _, rfl, hkc, hm, fun _ => ⟨g, 0, rfl, (hlt g rfl).2, fun i j hi hj => ?_⟩⟩
    have := h.cellAt (i * C + j) (row_lt hi hj)
    rw [Nat.zero_add, this, rows_get _ _ _ _ (row_lt hi hj), (row_ix hj).1, (row_ix hj).2]
/-- A row as what is appended. -/
theorem rowy_src {w : World} {A : Option Addr} {n cap C : Nat} {V : Nat → Nat → Value} (hC : 0 < C) (h : Rowy w (.slice A n cap) n C V) :
    (A = none → n = 0) ∧ ∀ ad, A = some ad → ∀ j u, (rowsOf V C n)[j]? = some u → w.cell? (ad.add j) = some u := by
  obtain ⟨A', cap', he, _, _, hc⟩ := h
  cases he
  refine ⟨fun hA => ?_, fun ad hA j u hj => ?_⟩
  · rcases Nat.eq_zero_or_pos n with h | h
    · exact h
    · obtain ⟨b, off, h1, _⟩ := hc h
      rw [hA] at h1; cases h1
  · have hjn : j < n * C := by
      have := (List.getElem?_eq_some_iff.1 hj).1
      rwa [rows_len] at this
    have hn0 : 0 < n := by
      rcases Nat.eq_zero_or_pos n with h | h
      · subst h; simp at hjn
      · exact h
    obtain ⟨b, off, h1, h2, h3⟩ := hc hn0
    rw [hA] at h1
    cases h1
    rw [rows_get _ _ _ _ hjn] at hj
    have hd : C * (j / C) + j % C = j := Nat.div_add_mod j C
    have := h3 (j / C) (j % C) ((Nat.div_lt_iff_lt_mul hC).2 hjn) (Nat.mod_lt _ hC)
    rw [Nat.mul_comm] at hd
    rw [add_plain, ← hj, ← this, hd]

/-- A part. -/
structure PP where
  ty : Int
  st : Int
  e : Bool
  f : Bool
  k : Bool
  body : List Int
  co : Int
  la : Int
  mo : Int
  cs : Int
  n : Nat
  Z : Nat → Int × Int
def PP.zero : PP := ⟨0, 0, false, false, false, [], 0, 0, 0, 0, 0, fun _ => (0, 0)⟩
def PP.base (ty st : Int) : PP := ⟨ty, st, false, false, false, [], 0, 0, 0, 0, 0, fun _ => (0, 0)⟩
abbrev pC (p : PP) (vb vs : Value) : Array Value := #[.int .i64 p.ty, .int .i64 p.st, .bool p.e, .bool p.f, .bool p.k, vb, .int .i64 p.co, .int .i64 p.la, .int .i64 p.mo, .int .i64 p.cs, vs]
abbrev pB (ty st : Int) : Array Value := #[.int .i64 ty, .int .i64 st, .bool false, .bool false, .bool false, .slice none 0 0, .int .i64 0, .int .i64 0, .int .i64 0, .int .i64 0, .slice none 0 0]
abbrev zB : Array Value := #[.int .i64 0, .int .i64 0, .int .i64 0]
abbrev fC (ty fl st : Int) (v : Value) : Array Value := #[.int .i64 ty, .int .i64 fl, .int .i64 st, v]
abbrev badV (b : Int × Int × Int) : Value := .agg #[.int .i64 b.1, .int .i64 b.2.1, .int .i64 b.2.2]
/-- v is the part p; what it bears of bytes and settings is new since B. -/
def IsP (w : World) (B : Nat) (v : Value) (p : PP) : Prop := ∃ vb vs, v = .agg (pC p vb vs) ∧ w.ownsRow B 5 1 vb p.body.length (bv p.body) ∧ w.ownsRow B 29 2 vs p.n (rowsOf (SV p.Z) 2 p.n)
theorem own_below {w w' : World} {B : Nat} {e : TypeId} {s n : Nat} {v : Value} {xs : List Value} (h : w.ownsRow B e s v n xs) (hb : Below w.heap.size w w') : w'.ownsRow B e s v n xs := by
  have hlt := h.lt
  refine ⟨h.1, ?_⟩
  rcases h.2 with h | ⟨g, cap, cur, rfl, hB, hh, h1, h2, h3, h4⟩
  · exact .inl h
  · exact .inr ⟨g, cap, cur, rfl, hB, (hb.block g (hlt g rfl).2).trans hh, h1, h2, h3, h4⟩
theorem own_form {w : World} {B : Nat} {e : TypeId} {s n : Nat} {v : Value} {xs : List Value} (h : w.ownsRow B e s v n xs) : ∃ A c, v = .slice A n c := by
  rcases h.2 with ⟨rfl, rfl⟩ | ⟨g, cap, cur, rfl, _⟩
  · exact ⟨_, _, rfl⟩
  · exact ⟨_, _, rfl⟩
theorem own_grown {w w' : World} {B r : Nat} {e : TypeId} {s n : Nat} {v : Value} {xs : List Value} (h : w.ownsRow B e s v n xs) (hg : w.grownBy w' (some r)) (hr : r < B) : w'.ownsRow B e s v n xs := by
  refine h.kept hg ?_
  rcases hb : v.ownBlock with _ | k
  · exact .inl rfl
  · have := (h.lt k hb).1
    exact .inr (by simp; omega)
theorem IsP.below {w w' : World} {B : Nat} {v : Value} {p : PP} (h : IsP w B v p) (hb : Below w.heap.size w w') : IsP w' B v p := by
  obtain ⟨vb, vs, h1, h2, h3⟩ := h
  exact ⟨vb, vs, h1, own_below h2 hb, own_below h3 hb⟩
theorem IsP.mono {w : World} {B B' : Nat} {v : Value} {p : PP} (h : IsP w B v p) (hb : B' ≤ B) : IsP w B' v p := by
  obtain ⟨vb, vs, h1, h2, h3⟩ := h
  exact ⟨vb, vs, h1, h2.mono hb, h3.mono hb⟩
theorem rowy_nil (w : World) (C : Nat) (V : Nat → Nat → Value) : Rowy w (.slice none 0 0) 0 C V := ⟨none, 0, rfl, Nat.le_refl _, Nat.zero_le _, fun h => absurd h (Nat.lt_irrefl _)⟩
theorem isP_base (w : World) (B : Nat) (ty st : Int) : IsP w B (.agg (pB ty st)) (PP.base ty st) := ⟨_, _, rfl, World.ownsRow_nil _ _ _ _, World.ownsRow_nil _ _ _ _⟩
theorem isP_zero (w : World) (B : Nat) : IsP w B (.agg zP) PP.zero := isP_base w B 0 0
abbrev okB : Int × Int × Int := (0, 0, 0)
abbrev cB (c : Int) : Int × Int × Int := (2, c, 0)
abbrev sB (c s : Int) : Int × Int × Int := (1, c, s)
def dataF (ty fl st : Int) (L : List Int) : PP × (Int × Int × Int) :=
  match padF fl L with
  | none => (PP.zero, cB 6)
  | some (pad, b) => if (b.length : Int) < pad then (PP.zero, cB 1) else ({ PP.base ty st with e := flag fl 1, cs := L.length, body := b.take ((b.length : Int) - pad).toNat }, okB)
def headF (ty fl st pad : Int) (b : List Int) : PP × (Int × Int × Int) :=
  if (b.length : Int) < pad then (PP.zero, cB 1) else ({ PP.base ty st with e := flag fl 1, f := flag fl 4, body := b.take ((b.length : Int) - pad).toNat }, okB)
def headersF (ty fl st : Int) (L : List Int) : PP × (Int × Int × Int) :=
  match padF fl L with
  | none => (PP.zero, cB 6)
  | some (pad, b) => if flag fl 32 = true then (if b.length < 5 then (PP.zero, cB 6) else if num b 0 % 2147483648 = st then (PP.zero, sB 1 st) else headF ty fl st pad (b.drop 5)) else headF ty fl st pad b
def prioF (ty st : Int) (L : List Int) : PP × (Int × Int × Int) :=
  if L.length ≠ 5 then (PP.zero, sB 6 st) else if num L 0 % 2147483648 = st then (PP.zero, sB 1 st) else (PP.base ty st, okB)
def resetF (ty st : Int) (L : List Int) : PP × (Int × Int × Int) :=
  if L.length ≠ 4 then (PP.zero, cB 6) else ({ PP.base ty st with co := num L 0 }, okB)
def setZ (L : List Int) (i : Nat) : Int × Int := (L.getD (6 * i) 0 * 256 + L.getD (6 * i + 1) 0, num L (6 * i + 2))
def setGo (ty fl st : Int) (L : List Int) : Nat → Nat → PP × (Int × Int × Int)
  | 0, i => ({ PP.base ty st with k := flag fl 1, n := i, Z := setZ L }, okB)
  | f + 1, i => if svalue (setZ L i).1 (setZ L i).2 ≠ 0 then (PP.zero, cB (svalue (setZ L i).1 (setZ L i).2)) else setGo ty fl st L f (i + 1)
def setF (ty fl st : Int) (L : List Int) : PP × (Int × Int × Int) :=
  if (flag fl 1 = true ∧ 0 < L.length) ∨ L.length % 6 ≠ 0 then (PP.zero, cB 6) else setGo ty fl st L (L.length / 6) 0
def pingF (ty fl st : Int) (L : List Int) : PP × (Int × Int × Int) :=
  if L.length ≠ 8 then (PP.zero, cB 6) else ({ PP.base ty st with k := flag fl 1, body := L }, okB)
def awayF (ty st : Int) (L : List Int) : PP × (Int × Int × Int) :=
  if L.length < 8 then (PP.zero, cB 6) else ({ PP.base ty st with la := num L 0 % 2147483648, co := num L 4, body := L.drop 8 }, okB)
def windF (ty st : Int) (L : List Int) : PP × (Int × Int × Int) :=
  if L.length ≠ 4 then (PP.zero, cB 6) else if 0 < num L 0 % 2147483648 then ({ PP.base ty st with mo := num L 0 % 2147483648 }, okB) else if st = 0 then (PP.zero, cB 1) else (PP.zero, sB 1 st)
def contF (ty fl st : Int) (L : List Int) : PP × (Int × Int × Int) := ({ PP.base ty st with f := flag fl 4, body := L }, okB)
/-- What a frame says, or which error it is. -/
def ofF (ty fl st : Int) (L : List Int) : PP × (Int × Int × Int) :=
  if rightB ty fl st L.length = false ∨ 9 < ty then (PP.base ty st, okB) else
  if misB ty st = true then (PP.zero, cB 1) else
  if ty = 0 then dataF ty fl st L else if ty = 1 then headersF ty fl st L else if ty = 2 then prioF ty st L else if ty = 3 then resetF ty st L else if ty = 4 then setF ty fl st L else
  if ty = 6 then pingF ty fl st L else if ty = 7 then awayF ty st L else if ty = 8 then windF ty st L else contF ty fl st L
/-- The call's answer. -/
def Ans (B : Nat) (r : PP × (Int × Int × Int)) (e : Ending) (w' : World) : Prop := ∃ v, e = .returned (.tuple #[v, badV r.2]) ∧ IsP w' B v r.1
theorem num_drop (L : List Int) (k o : Nat) : num (L.drop k) o = num L (k + o) := by
  unfold num
  simp only [List.getD_eq_getElem?_getD, List.getElem?_drop, Nat.add_assoc]
theorem Byt.drop {L : List Int} (h : Byt L) (k : Nat) : Byt (L.drop k) := fun x hx => h x (List.mem_of_mem_drop hx)
theorem padF_byt {fl : Int} {L : List Int} (h : Byt L) {p : Int} {b : List Int} (hp : padF fl L = some (p, b)) : 0 ≤ p ∧ p ≤ 255 ∧ Byt b ∧ b.length ≤ L.length := by
  unfold padF at hp
  split at hp
  · simp at hp
    obtain ⟨rfl, rfl⟩ := hp
    exact ⟨by omega, by omega, h, Nat.le_refl _⟩
  · match L, hp with
    | x :: r, hp =>
      simp at hp
      obtain ⟨rfl, rfl⟩ := hp
      exact ⟨(h x (by simp)).1, (h x (by simp)).2, fun y hy => h y (by simp [hy]), by simp⟩

end Go.Proofs.Ytdlmocjkhkopgaa.Sh
