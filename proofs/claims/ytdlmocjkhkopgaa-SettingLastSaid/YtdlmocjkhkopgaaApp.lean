/- append onto a row of the call's own, from whatever source; two rows of settings, one behind the other. -/
import Derived.Test.YtdlmocjkhkopgaaKitB
import Derived.Laws.AppendOwn
import Derived.Laws.OwnMore
import Derived.OwnWalk
namespace Go.Proofs.Ytdlmocjkhkopgaa
open Go.ChangeShapes Go.WideShapes Go.ChangeAt Go.RowKit
set_option linter.unusedVariables false

theorem run_append_nil_src {P : Program} (w : World) (base : Nat) (t ty e : TypeId) (i : TypeInfo) (size : Nat) (ht : P.underlying t = some (.slice e)) (hi : P.info? e = some i)
    (v : Value) (n : Nat) (xs : List Value) (hown : w.ownsRow base e size v n xs) (c : Nat) : (Builtin.append_ #[t, t] ty #[v, .slice none 0 c]).run P w = .ok v w := by
  rcases hown.2 with ⟨rfl, rfl⟩ | ⟨g, cap, cur, rfl, _, _, hnc, _⟩
  · simp [Builtin.append_, run_underlying ht, sizeOf, typeInfo, hi, Builtin.lenOf, Builtin.firstCells]
  · simp [Builtin.append_, run_underlying ht, sizeOf, typeInfo, hi, Builtin.lenOf, Builtin.firstCells, hnc, storeCells]

/-- At the operation: the source may be nil, empty or not. -/
theorem wp_append_src {P : Program} {w : World} {o : Oper} {a : Act} {K : Act → World → Prop} {Q : Exit → Act → World → Prop} (s x : Operand) (t : TypeId)
    (ho : o.op = .call { callee := .builtin .append, args := #[s, x], argTypes := #[t, t] })
    (base : Nat) (e : TypeId) (i : TypeInfo) (z : Value) (size bytes : Nat) (ht : P.underlying t = some (.slice e)) (hi : P.info? e = some i) (hz : i.zero = some z)
    (hsize : i.size = size) (hby : i.bytes = bytes) (hzs : z.cells.size = size) (hsz : 0 < size)
    (v : Value) (n : Nat) (xs : List Value) (hs : a.eval s = v) (hown : w.ownsRow base e size v n xs)
    (A : Option Addr) (m c : Nat) (news : List Value) (hx : a.eval x = .slice A m c) (hA : A = none → m = 0) (hl : news.length = m * size) (hnews : ∀ ad, A = some ad → ∀ j u, news[j]? = some u → w.cell? (ad.add j) = some u) (h1 : ∀ u ∈ news, u.oneCell' = true)
    (h63 : n + m ≤ maxLen) (hbytes : (n + m) * bytes ≤ 140737488355328) (hbase : base ≤ w.heap.size)
    (h : ∀ v' w', w'.ownsRow base e size v' (n + m) (xs ++ news) → w.grownBy w' v.ownBlock → K (a.put o.dst v') w') : Oper.wp P o a w K Q := by
  cases A with
  | some ad => exact wp_append_own w s x t ho base e i z size bytes ht hi hz hsize hby hzs hsz v n xs hs hown ad m c news hx hl (hnews ad rfl) h1 h63 hbytes hbase fun v' w' h2 h3 _ => h v' w' h2 h3
  | none =>
    obtain rfl := hA rfl
    have hn : news = [] := List.eq_nil_of_length_eq_zero (by simpa using hl)
    subst hn
    have hrun := run_append_nil_src (P := P) w base t o.type e i size ht hi v n xs hown c
    unfold Oper.wp
    simp [execOp, ho, resolve, invoke, builtin, hs, hx, hrun, Result.andThen]
    exact h v w (by simpa using hown) (World.grownBy.refl w _)
/-- At a step of a region that draws its order. -/
theorem step_append_src {P : Program} {w : World} {ops : Array Oper} {o : Oper} {a : Act} {K : Act → World → Prop} {Q : Exit → Act → World → Prop} {E : Prop} (hgd : o.guard = none) (s x : Operand) (t : TypeId)
    (ho : o.op = .call { callee := .builtin .append, args := #[s, x], argTypes := #[t, t] })
    (base : Nat) (e : TypeId) (i : TypeInfo) (z : Value) (size bytes : Nat) (ht : P.underlying t = some (.slice e)) (hi : P.info? e = some i) (hz : i.zero = some z)
    (hsize : i.size = size) (hby : i.bytes = bytes) (hzs : z.cells.size = size) (hsz : 0 < size)
    (v : Value) (n : Nat) (xs : List Value) (hs : a.eval s = v) (hown : w.ownsRow base e size v n xs)
    (A : Option Addr) (m c : Nat) (news : List Value) (hx : a.eval x = .slice A m c) (hA : A = none → m = 0) (hl : news.length = m * size) (hnews : ∀ ad, A = some ad → ∀ j u, news[j]? = some u → w.cell? (ad.add j) = some u) (h1 : ∀ u ∈ news, u.oneCell' = true)
    (h63 : n + m ≤ maxLen) (hbytes : (n + m) * bytes ≤ 140737488355328) (hbase : base ≤ w.heap.size)
    (h : ∀ v' w', w'.ownsRow base e size v' (n + m) (xs ++ news) → w.grownBy w' v.ownBlock → K (a.put o.dst v') w') :
    if Region.wanted o (yielded ops a.tmps) = true then Oper.wp P o a w K Q else E := by
  have hw : Region.wanted o (yielded ops a.tmps) = true := by simp [Region.wanted, hgd]
  rw [if_pos hw]
  exact wp_append_src s x t ho base e i z size bytes ht hi hz hsize hby hzs hsz v n xs hs hown A m c news hx hA hl hnews h1 h63 hbytes hbase h
/-- In a plain region. -/
theorem wpList_append_src {P : Program} {w : World} {ops : Array Oper} {rest : List Oper} {o : Oper} {a : Act} {Q : Exit → Act → World → Prop} (hgd : o.guard = none) (s x : Operand) (t : TypeId)
    (ho : o.op = .call { callee := .builtin .append, args := #[s, x], argTypes := #[t, t] })
    (base : Nat) (e : TypeId) (i : TypeInfo) (z : Value) (size bytes : Nat) (ht : P.underlying t = some (.slice e)) (hi : P.info? e = some i) (hz : i.zero = some z)
    (hsize : i.size = size) (hby : i.bytes = bytes) (hzs : z.cells.size = size) (hsz : 0 < size)
    (v : Value) (n : Nat) (xs : List Value) (hs : a.eval s = v) (hown : w.ownsRow base e size v n xs)
    (A : Option Addr) (m c : Nat) (news : List Value) (hx : a.eval x = .slice A m c) (hA : A = none → m = 0) (hl : news.length = m * size) (hnews : ∀ ad, A = some ad → ∀ j u, news[j]? = some u → w.cell? (ad.add j) = some u) (h1 : ∀ u ∈ news, u.oneCell' = true)
    (h63 : n + m ≤ maxLen) (hbytes : (n + m) * bytes ≤ 140737488355328) (hbase : base ≤ w.heap.size)
    (h : ∀ v' w', w'.ownsRow base e size v' (n + m) (xs ++ news) → w.grownBy w' v.ownBlock → wpList P ops Q rest (a.put o.dst v') w') : wpList P ops Q (o :: rest) a w :=
  wpList_plain hgd fun _ hK => wp_append_src s x t ho base e i z size bytes ht hi hz hsize hby hzs hsz v n xs hs hown A m c news hx hA hl hnews h1 h63 hbytes hbase fun v' w' h2 h3 => hK _ _ (h v' w' h2 h3)

/-- The cells of n settings. -/
def pairsOf (Z : Nat → Nat → Int) (n : Nat) : List Value := (List.range (n * 2)).map fun q => .int .i64 (Z (q / 2) (q % 2))
theorem pairsOf_len (Z : Nat → Nat → Int) (n : Nat) : (pairsOf Z n).length = n * 2 := by simp [pairsOf]
theorem pairsOf_get (Z : Nat → Nat → Int) (n q : Nat) (h : q < n * 2) : (pairsOf Z n)[q]? = some (.int .i64 (Z (q / 2) (q % 2))) := by simp [pairsOf, h]
theorem pairs_one (Z : Nat → Nat → Int) (n : Nat) : ∀ u ∈ pairsOf Z n, u.oneCell' = true := fun u hu => by
  simp [pairsOf] at hu
  obtain ⟨q, _, rfl⟩ := hu
  rfl
def bothZ (Y Z : Nat → Nat → Int) (n : Nat) : Nat → Nat → Int := fun i j => if i < n then Y i j else Z (i - n) j
theorem pairs_both (Y Z : Nat → Nat → Int) (n k : Nat) : pairsOf Y n ++ pairsOf Z k = pairsOf (bothZ Y Z n) (n + k) := by
  apply List.ext_getElem?
  intro j
  by_cases h1 : j < n * 2
  · rw [List.getElem?_append_left (by rw [pairsOf_len]; exact h1), pairsOf_get _ _ _ h1, pairsOf_get _ _ _ (by omega), bothZ, if_pos (by omega)]
  · rw [List.getElem?_append_right (by rw [pairsOf_len]; omega), pairsOf_len]
    by_cases h2 : j < (n + k) * 2
    · rw [pairsOf_get _ _ _ (by omega), pairsOf_get _ _ _ h2, bothZ, if_neg (by omega), show (j - n * 2) / 2 = j / 2 - n by omega, show (j - n * 2) % 2 = j % 2 by omega]
    · rw [List.getElem?_eq_none (by rw [pairsOf_len]; omega), List.getElem?_eq_none (by rw [pairsOf_len]; omega)]
/-- An own row of settings can be read. -/
theorem rowy_own2 {w : World} {B n : Nat} {v : Value} {Z : Nat → Nat → Int} (h : w.ownsRow B 29 2 v n (pairsOf Z n)) : Rowy w v n 2 (fun i j => .int .i64 (Z i j)) := by
  have hlt := h.lt
  rcases h.2 with ⟨rfl, rfl⟩ | ⟨g, cap, cur, rfl, hB, hh, hkc, hm, hs, ht⟩
  · exact ⟨_, _, rfl, Nat.le_refl _, Nat.zero_le _, fun h => absurd h (Nat.lt_irrefl _)⟩
  · refine ⟨_, _, rfl, hkc, hm, fun _ => ⟨g, 0, rfl, (hlt g rfl).2, fun i j hi hj => ?_⟩⟩
    have := h.cellAt (i * 2 + j) (by omega)
    rw [Nat.zero_add, this, pairsOf_get _ _ _ (by omega), show (i * 2 + j) / 2 = i by omega, show (i * 2 + j) % 2 = j by omega]
/-- A row of settings as what is appended. -/
theorem rowy_src {w : World} {A : Option Addr} {n cap : Nat} {Z : Nat → Nat → Int} (h : Rowy w (.slice A n cap) n 2 (fun i j => .int .i64 (Z i j))) :
    (A = none → n = 0) ∧ ∀ ad, A = some ad → ∀ j u, (pairsOf Z n)[j]? = some u → w.cell? (ad.add j) = some u := by
  obtain ⟨A', cap', he, _, _, hc⟩ := h
  cases he
  refine ⟨fun hA => ?_, fun ad hA j u hj => ?_⟩
  · rcases Nat.eq_zero_or_pos n with h | h
    · exact h
    · obtain ⟨b, off, h1, _⟩ := hc h
      rw [hA] at h1; cases h1
  · have hjn : j < n * 2 := by
      have := (List.getElem?_eq_some_iff.1 hj).1
      rwa [pairsOf_len] at this
    obtain ⟨b, off, h1, h2, h3⟩ := hc (by omega)
    rw [hA] at h1
    cases h1
    rw [pairsOf_get _ _ _ hjn] at hj
    have := h3 (j / 2) (j % 2) (by omega) (by omega)
    rw [add_plain, show off + j = off + (j / 2 * 2 + j % 2) by omega, this]
    exact hj
theorem ap_both1 (Y Z : Nat → Nat → Int) (x : S5) (n : Nat) : ∀ k, k ≤ n → ap (bothZ Y Z n) x k = ap Y x k
  | 0, _ => rfl
  | k + 1, h => by
    show upd (ap (bothZ Y Z n) x k) (bothZ Y Z n k 0) (bothZ Y Z n k 1) = upd (ap Y x k) (Y k 0) (Y k 1)
    rw [ap_both1 Y Z x n k (by omega)]
    simp only [bothZ, if_pos (show k < n by omega)]
theorem ap_both2 (Y Z : Nat → Nat → Int) (x : S5) (n : Nat) : ∀ k, ap (bothZ Y Z n) x (n + k) = ap Z (ap Y x n) k
  | 0 => ap_both1 Y Z x n n (Nat.le_refl _)
  | k + 1 => by
    show upd (ap (bothZ Y Z n) x (n + k)) (bothZ Y Z n (n + k) 0) (bothZ Y Z n (n + k) 1) = upd (ap Z (ap Y x n) k) (Z k 0) (Z k 1)
    rw [ap_both2 Y Z x n k]
    simp only [bothZ, if_neg (show ¬ n + k < n by omega), Nat.add_sub_cancel_left]
theorem fine_both1 {Y Z : Nat → Nat → Int} {n m : Nat} (h : AllFine Y m) (hm : m ≤ n) : AllFine (bothZ Y Z n) m := fun j hj => by
  simp only [bothZ, if_pos (show j < n by omega)]; exact h j hj
theorem fine_both2 {Y Z : Nat → Nat → Int} {n m : Nat} (h : AllFine Y n) (h' : AllFine Z m) : AllFine (bothZ Y Z n) (n + m) := fun j hj => by
  by_cases hjn : j < n
  · simp only [bothZ, if_pos hjn]; exact h j hjn
  · simp only [bothZ, if_neg hjn]; exact h' (j - n) (by omega)
theorem ans_both_bad {Y Z : Nat → Nat → Int} {x y : S5} {n k : Nat} {c : Int} (h : Ans Y x n y c) (hc : c ≠ 0) : y = x ∧ Ans (bothZ Y Z n) x (n + k) x c := by
  rcases h with ⟨_, _, h3⟩ | ⟨m, h1, h2, h3, h4, h5⟩
  · exact absurd h3 hc
  · exact ⟨h5, .inr ⟨m, by omega, fine_both1 h2 (by omega), by simp only [bothZ, if_pos h1]; exact h3, h4, rfl⟩⟩
theorem ans_both_bad2 {Y Z : Nat → Nat → Int} {x y z : S5} {n k : Nat} {d : Int} (h : Ans Y x n y 0) (h' : Ans Z y k z d) (hd : d ≠ 0) : z = y ∧ Ans (bothZ Y Z n) x (n + k) x d := by
  rcases h' with ⟨_, _, h3⟩ | ⟨m, h1, h2, h3, h4, h5⟩
  · exact absurd h3 hd
  · rcases h with ⟨f1, _, _⟩ | ⟨_, _, _, _, f4, _⟩
    · exact ⟨h5, .inr ⟨n + m, by omega, fine_both2 f1 h2, by simp only [bothZ, if_neg (show ¬ n + m < n by omega), Nat.add_sub_cancel_left]; exact h3, h4, rfl⟩⟩
    · exact absurd rfl f4
theorem ans_both_ok {Y Z : Nat → Nat → Int} {x y z : S5} {n k : Nat} (h : Ans Y x n y 0) (h' : Ans Z y k z 0) : Ans (bothZ Y Z n) x (n + k) z 0 := by
  rcases h with ⟨f1, f2, _⟩ | ⟨_, _, _, _, f4, _⟩
  · rcases h' with ⟨g1, g2, _⟩ | ⟨_, _, _, _, g4, _⟩
    · exact .inl ⟨fine_both2 f1 g1, by rw [ap_both2, ← f2]; exact g2, rfl⟩
    · exact absurd rfl g4
  · exact absurd rfl f4
end Go.Proofs.Ytdlmocjkhkopgaa
