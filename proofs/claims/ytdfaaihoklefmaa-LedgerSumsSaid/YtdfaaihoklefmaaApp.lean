/- append onto a row of the call's own, from whatever source; rows, one behind the other. -/
import Derived.Test.YtdfaaihoklefmaaRef
import Derived.Laws.AppendOwn
import Derived.Laws.OwnMore
import Derived.OwnWalk
namespace Go.Proofs.Ytdfaaihoklefmaa
open Go.ChangeShapes Go.WideShapes Go.ChangeAt Go.RowKit
set_option linter.unusedVariables false
set_option linter.unusedSimpArgs false

theorem run_append_nil_src {P : Program} (w : World) (base : Nat) (t ty e : TypeId) (i : TypeInfo) (size : Nat) (ht : P.underlying t = some (.slice e)) (hi : P.info? e = some i)
    (v : Value) (n : Nat) (xs : List Value) (hown : w.ownsRow base e size v n xs) (c : Nat) : (Builtin.append_ #[t, t] ty #[v, .slice none 0 c]).run P w = .ok v w := by
  rcases hown.2 with ⟨rfl, rfl⟩ | ⟨g, cap, cur, rfl, _, _, hnc, _⟩
  · simp [Builtin.append_, run_underlying ht, sizeOf, typeInfo, hi, Builtin.lenOf, Builtin.firstCells]
  · simp [Builtin.append_, run_underlying ht, sizeOf, typeInfo, hi, Builtin.lenOf, Builtin.firstCells, hnc, storeCells]

/-- At the operation: the source may be nil, empty or not. -/
theorem wp_append_src {P : Program} {w : World} {o : Oper} {a : Act} {K : Act → World → Prop} {Q : Exit → Act → World → Prop} (s x : Operand) (t : TypeId)
    (ho : o.op = .call { callee := .builtin .append, args := #[s, x], argTypes := #[t, t] })
    (base : Nat) (e : TypeId) (i : TypeInfo) (z : Value) (size bytes : Nat) (ht : P.underlying t = some (.slice e)) (hi : P.info? e = some i) (hz : i.zero = some z)
    (hsize : i.size = size) (hby : i.bytes = bytes) (hzs : z.cells.size = size) (hsz : 0 < size)
    (v : Value) (n : Nat) (xs : List Value) (hs : a.eval s = v) (hown : w.ownsRow base e size v n xs)
    (A : Option Addr) (m c : Nat) (news : List Value) (hx : a.eval x = .slice A m c) (hA : A = none → m = 0) (hl : news.length = m * size) (hnews : ∀ ad, A = some ad → ∀ j u, news[j]? = some u → w.cell? (ad.add j) = some u) (h1 : ∀ u ∈ news, u.oneCell' = true)
    (h63 : n + m ≤ maxLen) (hbytes : (n + m) * bytes ≤ 140737488355328) (hbase : base ≤ w.heap.size)
    (h : ∀ v' w', w'.ownsRow base e size v' (n + m) (xs ++ news) → w.grownBy w' v.ownBlock → K (a.put o.dst v') w') : Oper.wp P o a w K Q := by
  cases A with
  | some ad => exact wp_append_own w s x t ho base e i z size bytes ht hi hz hsize hby hzs hsz v n xs hs hown ad m c news hx hl (hnews ad rfl) h1 h63 hbytes hbase fun v' w' h2 h3 _ => h v' w' h2 h3
  | none =>
    obtain rfl := hA rfl
    have hn : news = [] := List.eq_nil_of_length_eq_zero (by simpa using hl)
    subst hn
    have hrun := run_append_nil_src (P := P) w base t o.type e i size ht hi v n xs hown c
    unfold Oper.wp
    simp [execOp, ho, resolve, invoke, builtin, hs, hx, hrun, Result.andThen]
    exact h v w (by simpa using hown) (World.grownBy.refl w _)
/-- At a step of a region that draws its order. -/
theorem step_append_src {P : Program} {w : World} {ops : Array Oper} {o : Oper} {a : Act} {K : Act → World → Prop} {Q : Exit → Act → World → Prop} {E : Prop} (hgd : o.guard = none) (s x : Operand) (t : TypeId)
    (ho : o.op = .call { callee := .builtin .append, args := #[s, x], argTypes := #[t, t] })
    (base : Nat) (e : TypeId) (i : TypeInfo) (z : Value) (size bytes : Nat) (ht : P.underlying t = some (.slice e)) (hi : P.info? e = some i) (hz : i.zero = some z)
    (hsize : i.size = size) (hby : i.bytes = bytes) (hzs : z.cells.size = size) (hsz : 0 < size)
    (v : Value) (n : Nat) (xs : List Value) (hs : a.eval s = v) (hown : w.ownsRow base e size v n xs)
    (A : Option Addr) (m c : Nat) (news : List Value) (hx : a.eval x = .slice A m c) (hA : A = none → m = 0) (hl : news.length = m * size) (hnews : ∀ ad, A = some ad → ∀ j u, news[j]? = some u → w.cell? (ad.add j) = some u) (h1 : ∀ u ∈ news, u.oneCell' = true)
    (h63 : n + m ≤ maxLen) (hbytes : (n + m) * bytes ≤ 140737488355328) (hbase : base ≤ w.heap.size)
    (h : ∀ v' w', w'.ownsRow base e size v' (n + m) (xs ++ news) → w.grownBy w' v.ownBlock → K (a.put o.dst v') w') :
    if Region.wanted o (yielded ops a.tmps) = true then Oper.wp P o a w K Q else E := by
  have hw : Region.wanted o (yielded ops a.tmps) = true := by simp [Region.wanted, hgd]
  rw [if_pos hw]
  exact wp_append_src s x t ho base e i z size bytes ht hi hz hsize hby hzs hsz v n xs hs hown A m c news hx hA hl hnews h1 h63 hbytes hbase h
/-- In a plain region. -/
theorem wpList_append_src {P : Program} {w : World} {ops : Array Oper} {rest : List Oper} {o : Oper} {a : Act} {Q : Exit → Act → World → Prop} (hgd : o.guard = none) (s x : Operand) (t : TypeId)
    (ho : o.op = .call { callee := .builtin .append, args := #[s, x], argTypes := #[t, t] })
    (base : Nat) (e : TypeId) (i : TypeInfo) (z : Value) (size bytes : Nat) (ht : P.underlying t = some (.slice e)) (hi : P.info? e = some i) (hz : i.zero = some z)
    (hsize : i.size = size) (hby : i.bytes = bytes) (hzs : z.cells.size = size) (hsz : 0 < size)
    (v : Value) (n : Nat) (xs : List Value) (hs : a.eval s = v) (hown : w.ownsRow base e size v n xs)
    (A : Option Addr) (m c : Nat) (news : List Value) (hx : a.eval x = .slice A m c) (hA : A = none → m = 0) (hl : news.length = m * size) (hnews : ∀ ad, A = some ad → ∀ j u, news[j]? = some u → w.cell? (ad.add j) = some u) (h1 : ∀ u ∈ news, u.oneCell' = true)
    (h63 : n + m ≤ maxLen) (hbytes : (n + m) * bytes ≤ 140737488355328) (hbase : base ≤ w.heap.size)
    (h : ∀ v' w', w'.ownsRow base e size v' (n + m) (xs ++ news) → w.grownBy w' v.ownBlock → wpList P ops Q rest (a.put o.dst v') w') : wpList P ops Q (o :: rest) a w :=
  wpList_plain hgd fun _ hK => wp_append_src s x t ho base e i z size bytes ht hi hz hsize hby hzs hsz v n xs hs hown A m c news hx hA hl hnews h1 h63 hbytes hbase fun v' w' h2 h3 => hK _ _ (h v' w' h2 h3)


/-- The cells of n elements of C cells. -/
def rowsOf (V : Nat → Nat → Value) (C n : Nat) : List Value := (List.range (n * C)).map fun q => V (q / C) (q % C)
theorem rows_len (V : Nat → Nat → Value) (C n : Nat) : (rowsOf V C n).length = n * C := by simp [rowsOf]
theorem rows_get (V : Nat → Nat → Value) (C n q : Nat) (h : q < n * C) : (rowsOf V C n)[q]? = some (V (q / C) (q % C)) := by simp [rowsOf, h]
theorem rows_one {V : Nat → Nat → Value} {C n : Nat} (h : ∀ i j, j < C → (V i j).oneCell' = true) : ∀ u ∈ rowsOf V C n, u.oneCell' = true := fun u hu => by
  simp [rowsOf] at hu
  obtain ⟨q, hq, rfl⟩ := hu
  refine h _ _ (Nat.mod_lt _ ?_)
  rcases Nat.eq_zero_or_pos C with h0 | h0
  · subst h0; simp at hq
  · exact h0
def bothV (Y Z : Nat → Nat → Value) (n : Nat) : Nat → Nat → Value := fun i j => if i < n then Y i j else Z (i - n) j
theorem rows_both (Y Z : Nat → Nat → Value) (C n k : Nat) (hC : 0 < C) : rowsOf Y C n ++ rowsOf Z C k = rowsOf (bothV Y Z n) C (n + k) := by
  apply List.ext_getElem?
  intro j
  by_cases h1 : j < n * C
  · have h3 : j < (n + k) * C := by rw [Nat.add_mul]; omega
    have h4 : j / C < n := (Nat.div_lt_iff_lt_mul hC).2 h1
    rw [List.getElem?_append_left (by rw [rows_len]; exact h1), rows_get _ _ _ _ h1, rows_get _ _ _ _ h3, bothV, if_pos h4]
  · rw [List.getElem?_append_right (by rw [rows_len]; omega), rows_len]
    have h4 : ¬ j / C < n := fun h => h1 ((Nat.div_lt_iff_lt_mul hC).1 h)
    by_cases h2 : j < (n + k) * C
    · have h5 : j - n * C < k * C := by rw [Nat.add_mul] at h2; omega
      have e1 : j = (j - n * C) + n * C := by omega
      have e2 : j / C = (j - n * C) / C + n := by conv => lhs; rw [e1]; rw [Nat.add_mul_div_right _ _ hC]
      have e3 : j % C = (j - n * C) % C := by conv => lhs; rw [e1]; rw [Nat.add_mul_mod_self_right]
      rw [rows_get _ _ _ _ h5, rows_get _ _ _ _ h2, bothV, if_neg h4, e3, e2, Nat.add_sub_cancel]
    · have h5 : ¬ j - n * C < k * C := by rw [Nat.add_mul] at h2; omega
      rw [List.getElem?_eq_none (by rw [rows_len]; omega), List.getElem?_eq_none (by rw [rows_len]; omega)]
theorem row_ix {C i j : Nat} (hj : j < C) : (i * C + j) / C = i ∧ (i * C + j) % C = j := by
  refine ⟨?_, ?_⟩
  · rw [Nat.mul_comm, Nat.mul_add_div (by omega), Nat.div_eq_of_lt hj, Nat.add_zero]
  · rw [Nat.mul_comm, Nat.mul_add_mod, Nat.mod_eq_of_lt hj]
theorem row_lt {C i j n : Nat} (hi : i < n) (hj : j < C) : i * C + j < n * C := by
  have : (i + 1) * C ≤ n * C := Nat.mul_le_mul_right C hi
  rw [Nat.succ_mul] at this
  omega
/-- An own row can be read. -/
theorem rowy_own {w : World} {B n C : Nat} {e : TypeId} {v : Value} {V : Nat → Nat → Value} (h : w.ownsRow B e C v n (rowsOf V C n)) : Rowy w v n C V := by
  have hlt := h.lt
  rcases h.2 with ⟨rfl, rfl⟩ | ⟨g, cap, cur, rfl, hB, hh, hkc, hm, hs, ht⟩
  · exact ⟨_, _, rfl, Nat.le_refl _, Nat.zero_le _, fun h => absurd h (Nat.lt_irrefl _)⟩
  · refine ⟨_, _, rfl, hkc, hm, fun _ => ⟨g, 0, rfl, (hlt g rfl).2, fun i j hi hj => ?_⟩⟩
    have := h.cellAt (i * C + j) (row_lt hi hj)
    rw [Nat.zero_add, this, rows_get _ _ _ _ (row_lt hi hj), (row_ix hj).1, (row_ix hj).2]
/-- A row as what is appended. -/
theorem rowy_src {w : World} {A : Option Addr} {n cap C : Nat} {V : Nat → Nat → Value} (hC : 0 < C) (h : Rowy w (.slice A n cap) n C V) :
    (A = none → n = 0) ∧ ∀ ad, A = some ad → ∀ j u, (rowsOf V C n)[j]? = some u → w.cell? (ad.add j) = some u := by
  obtain ⟨A', cap', he, _, _, hc⟩ := h
  cases he
  refine ⟨fun hA => ?_, fun ad hA j u hj => ?_⟩
  · rcases Nat.eq_zero_or_pos n with h | h
    · exact h
    · obtain ⟨b, off, h1, _⟩ := hc h
      rw [hA] at h1; cases h1
  · have hjn : j < n * C := by
      have := (List.getElem?_eq_some_iff.1 hj).1
      rwa [rows_len] at this
    have hn0 : 0 < n := by
      rcases Nat.eq_zero_or_pos n with h | h
      · subst h; simp at hjn
      · exact h
    obtain ⟨b, off, h1, h2, h3⟩ := hc hn0
    rw [hA] at h1
    cases h1
    rw [rows_get _ _ _ _ hjn] at hj
    have hd : C * (j / C) + j % C = j := Nat.div_add_mod j C
    have := h3 (j / C) (j % C) ((Nat.div_lt_iff_lt_mul hC).2 hjn) (Nat.mod_lt _ hC)
    rw [Nat.mul_comm] at hd
    rw [add_plain, ← hj, ← this, hd]
theorem FV_one (F : Nat → ByteArray × ByteArray) : ∀ i j, j < 2 → (FV F i j).oneCell' = true := fun i j _ => by unfold FV; split <;> rfl
theorem rows_snoc (F : Nat → ByteArray × ByteArray) (n : Nat) : rowsOf (FV F) 2 n ++ [.string (F n).1, .string (F n).2] = rowsOf (FV F) 2 (n + 1) := by
  have : [Value.string (F n).1, .string (F n).2] = rowsOf (FV fun _ => F n) 2 1 := rfl
  rw [this, rows_both _ _ _ _ _ (by omega)]
  unfold rowsOf
  apply List.map_congr_left
  intro q hq
  simp at hq
  have : bothV (FV F) (FV fun _ => F n) n (q / 2) (q % 2) = FV F (q / 2) (q % 2) := by
    unfold bothV
    split
    · rfl
    · rw [show q / 2 = n by omega]; rfl
  exact this
theorem info35 : (Try.prog.info? 35).map (fun i => (i.zero, i.size, i.bytes)) = some (some (.agg #[.string ⟨#[]⟩, .string ⟨#[]⟩]), 2, 32) := by kernel_rfl
theorem info29 : (Try.prog.info? 29).map (fun i => (i.zero, i.size, i.bytes)) = some (some (.agg #[.int .i64 0, .int .i64 0, .int .i64 0, .slice none 0 0, .string ⟨#[]⟩, .bool false, .bool false, .int .i64 0, .int .i64 0]), 9, 88) := by kernel_rfl
end Go.Proofs.Ytdfaaihoklefmaa
