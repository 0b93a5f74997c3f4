import Derived.Test.YtpgfdoakehpnlaaGreatDoorAvM
import Derived.Test.YtpgfdoakehpnlaaGreatDoorAvB
import Derived.Laws.BitsAll
import Derived.Laws.BitsAllLaws
import Derived.Laws.Bits128
import Derived.Laws.AppendOwn
import Derived.Laws.CopyOwn
import Derived.OwnWalk
import Derived.BigQuiet
import Derived.Lib.QuietBelow
import Derived.Laws.OwnMore
import Derived.Carry
import Derived.Deep.DeepCutAuto
import Derived.Deep.AppendLies
import Derived.Outline
set_option linter.unusedVariables false
set_option linter.unusedSimpArgs false
namespace Go.AM.Pi
open Go Go.Proofs Go.ChangeShapes Go.WideShapes Go.ChangeAt Go.RowKit
set_option linter.unusedVariables false
set_option linter.unusedSimpArgs false
/-! # pint's contracts: the kit of slices of bytes -/
theorem bcell {W w1 : World} (hb : Below W.heap.size W w1) : (∀ b o, b < W.heap.size → w1.cell? ⟨b, o, none⟩ = W.cell? ⟨b, o, none⟩) ∧ (∀ b o, b < W.heap.size → w1.frozen? ⟨b, o, none⟩ = W.frozen? ⟨b, o, none⟩) :=
  ⟨fun b o h => hb.cell (p := ⟨b, o, none⟩) h, fun b o h => hb.frozen (p := ⟨b, o, none⟩) h⟩
/-- A world is put behind a letter, of which only K is kept. -/
theorem wp_forget {P : Program} {c : Code} {Q : Exit → Act → World → Prop} {a : Act} {w : World} (K : World → Prop) (hK : K w) (h : ∀ W, K W → c.wp P Q a W) : c.wp P Q a w := h w hK
theorem ret_int {k : IntKind} {a b : Int} (h : a = b) : Ending.returned (.int k a) = .returned (.int k b) := by rw [h]
theorem ret_bool {a b : Bool} (h : a = b) : Ending.returned (.bool a) = .returned (.bool b) := by rw [h]
theorem ret_ii {k l : IntKind} {a b c d : Int} (h : a = b) (h' : c = d) : Ending.returned (.tuple #[.int k a, .int l c]) = .returned (.tuple #[.int k b, .int l d]) := by rw [h, h']
theorem ret_ib {k : IntKind} {a b : Int} {c d : Bool} (h : a = b) (h' : c = d) : Ending.returned (.tuple #[.int k a, .bool c]) = .returned (.tuple #[.int k b, .bool d]) := by rw [h, h']
/-- Block g is just the cells cs of type t, none frozen. -/
def Blk (w : World) (g : Nat) (t : TypeId) (cs : Array Value) : Prop := w.heap[g]? = some (.cells cs t (0, 0))
section
variable {w w' : World} {g : Nat} {t : TypeId} {cs : Array Value}
theorem Blk.lt (h : Blk w g t cs) : g < w.heap.size := (Array.getElem?_eq_some_iff.1 h).1
theorem Blk.cell (h : Blk w g t cs) (i : Nat) : w.cell? ⟨g, i, none⟩ = cs[i]? := cell_of_row w g i cs t (0, 0) h
theorem Blk.frozen (h : Blk w g t cs) (i : Nat) : w.frozen? ⟨g, i, none⟩ = false := frozen_of_row w g i cs t h
theorem Blk.new (w : World) (t : TypeId) (cs : Array Value) : Blk (w.alloc (.cells cs t)) w.heap.size t cs := heap_alloc_new w _
theorem Blk.new_at {b : Nat} (hb : b = w.heap.size) : Blk (w.alloc (.cells cs t)) b t cs := by subst hb; exact Blk.new w t cs
theorem Blk.alloc (h : Blk w g t cs) (o : Obj) : Blk (w.alloc o) g t cs := (Below.heap_alloc w o g h.lt).trans h
theorem Blk.drew (h : Blk w g t cs) : Blk w.drew g t cs := h
theorem Blk.put (h : Blk w g t cs) (i : Nat) (u : Value) : Blk (w.setCell ⟨g, i, none⟩ u) g t (cs.setIfInBounds i u) := heap_setCell_same w g i cs t u h
theorem Blk.far (h : Blk w g t cs) {p : Addr} (hp : g ≠ p.block) (u : Value) : Blk (w.setCell p u) g t cs := (heap_setCell_other w p g u hp).trans h
theorem Blk.below {B : Nat} (h : Blk w g t cs) (hb : Below B w w') (hg : g < B) : Blk w' g t cs := (hb.block g hg).trans h
theorem Blk.grown {row : Option Nat} (h : Blk w g t cs) (hb : w.grownBy w' row) (hg : some g ≠ row) : Blk w' g t cs := (hb.block g h.lt hg).trans h

theorem setRow_grown (w : World) (g : Nat) (cs : Array Value) : w.grownBy (w.setRow g cs) (some g) :=
  ⟨rfl, rfl, rfl, by simp, fun k _ hk => setRow_other w g k cs (fun e => hk (by rw [e]))⟩
theorem run_storeVar_row {P : Program} (w : World) (g : Nat) (t ty : TypeId) (cur vs : Array Value) (hg : w.heap[g]? = some (.cells cur t (0, 0))) (hs : cur.size = vs.size)
    (hi : (P.info? ty).map (·.size) = some vs.size) (h1 : ∀ v ∈ vs.toList, v.oneCell' = true) : (storeVar ty ⟨g, 0, none⟩ (.agg vs)).run P w = .ok () (w.setRow g vs) := by
  cases hq : P.info? ty with
  | none => simp [hq] at hi
  | some i =>
    have hz : i.size = vs.size := by simpa [hq] using hi
    have hst := run_storeCells_at P g 0 t vs.toList 0 cur w hg (by simp; omega) h1
    have e : cur.toList.drop vs.size = [] := by simp; omega
    simp only [Nat.zero_add, List.take_zero, List.nil_append, Array.length_toList, e, List.append_nil, Array.toArray_toList] at hst
    simp [storeVar, sizeOf, typeInfo, hq, hz, Value.cells, hst]
/-- A whole struct is stored into a block that is just such a struct: the world behind it is a letter. -/
theorem wpList_store_row {P : Program} {ops : Array Oper} {rest : List Oper} {o : Oper} {a : Act} {Q : Exit → Act → World → Prop} (hgd : o.guard = none) (ty : TypeId) (x y : Operand) (ho : o.op = .store ty x y)
    (g : Nat) (hx : a.eval x = .pointer (some ⟨g, 0, none⟩)) (vs : Array Value) (hy : a.eval y = .agg vs) (t : TypeId) (cur : Array Value) (hg : Blk w g t cur) (hs : cur.size = vs.size)
    (hi : (P.info? ty).map (·.size) = some vs.size) (h1 : ∀ v ∈ vs.toList, v.oneCell' = true)
    (h : ∀ w', Blk w' g t vs → w.grownBy w' (some g) → w'.heap.size = w.heap.size → wpList P ops Q rest (a.put o.dst undef) w') : wpList P ops Q (o :: rest) a w :=
  wpList_plain hgd fun K hK => by
    unfold Oper.wp Go.execOp
    simp only [ho, hx, hy, Instr.storeAt, Instr.sureAddr, Sem.run_bind, Sem.run_pure, Result.andThen_ok, run_storeVar_row w g t ty cur vs hg hs hi h1]
    exact hK _ _ (h _ (setRow_heap w g cur vs t _ hg) (setRow_grown w g vs) (by simp))
end
theorem results_cell_tmp {P : Program} {w : World} {fn : Func} {p q : Tmp} {ty : TypeId} (h : fn.results = #[.cell p ty, .tmp q]) (tmps : Array Value) (g : Nat) (t : TypeId) (cs : Array Value) (d : TypeDesc)
    (hp : tmps.getD p undef = .pointer (some ⟨g, 0, none⟩)) (hg : Blk w g t cs)
    (hu : P.underlying ty = some d) (hd : (match d with | .struct _ | .array _ _ => true | _ => false) = true) (hi : (P.info? ty).map (·.size) = some cs.size) :
    (results fn tmps).run P w = .ok (.tuple #[.agg cs, tmps.getD q undef]) w := by
  have hp' : tmps[p]?.getD undef = .pointer (some ⟨g, 0, none⟩) := by simpa using hp
  simp [results, h, hp', asAddr, run_loadVar_row w g t ty cs (0, 0) d hg hu hd hi]
theorem val_int {k : IntKind} {a b : Int} (h : a = b) : Value.int k a = .int k b := by rw [h]
/-- The value v is a slice of n elements of C cells; cell j of element i holds V i j. -/
def Rowy (w : World) (v : Value) (n C : Nat) (V : Nat → Nat → Value) : Prop :=
  ∃ (A : Option Addr) (cap : Nat), v = .slice A n cap ∧ n ≤ cap ∧ True ∧
    (0 < n → ∃ b off, A = some ⟨b, off, none⟩ ∧ b < w.heap.size ∧ ∀ i j, i < n → j < C → w.cell? ⟨b, off + (i * C + j), none⟩ = some (V i j))

theorem Rowy.below {w w' : World} {v : Value} {n C : Nat} {V : Nat → Nat → Value} (h : Rowy w v n C V) {B : Nat} (hb : Below B w w') (hB : w.heap.size ≤ B) : Rowy w' v n C V := by
  obtain ⟨A, cap, h1, h2, h3, h4⟩ := h
  refine ⟨A, cap, h1, h2, h3, fun hn => ?_⟩
  obtain ⟨b, off, h5, h6, h7⟩ := h4 hn
  exact ⟨b, off, h5, Nat.lt_of_lt_of_le h6 hb.size, fun i j hi hj => by rw [hb.cell (p := ⟨b, _, none⟩) (by show b < B; omega)]; exact h7 i j hi hj⟩
open Go.ChangeShapes Go.WideShapes Go.ChangeAt Go.RowKit
set_option linter.unusedVariables false
set_option linter.unusedSimpArgs false

def bv (L : List Int) : List Value := L.map (Value.int .u8)
/-- v is a slice of the bytes L. -/
def BS (w : World) (v : Value) (L : List Int) : Prop := Rowy w v L.length 1 (fun i _ => .int .u8 (L.getD i 0))
def Byt (L : List Int) : Prop := ∀ x ∈ L, 0 ≤ x ∧ x ≤ 255
theorem Byt.at {L : List Int} (h : Byt L) (i : Nat) : 0 ≤ L.getD i 0 ∧ L.getD i 0 ≤ 255 := by
  by_cases hi : i < L.length
  · rw [List.getD_eq_getElem?_getD, List.getElem?_eq_getElem hi]; exact h _ (List.getElem_mem hi)
  · rw [List.getD_eq_getElem?_getD, List.getElem?_eq_none (by omega)]; decide
theorem pw_cases {n : Int} (h1 : 1 ≤ n) (h2 : n ≤ 8) : (n = 1 ∧ pw n = 2) ∨ (n = 2 ∧ pw n = 4) ∨ (n = 3 ∧ pw n = 8) ∨ (n = 4 ∧ pw n = 16) ∨ (n = 5 ∧ pw n = 32) ∨ (n = 6 ∧ pw n = 64) ∨ (n = 7 ∧ pw n = 128) ∨ (n = 8 ∧ pw n = 256) := by
  rcases (show n = 1 ∨ n = 2 ∨ n = 3 ∨ n = 4 ∨ n = 5 ∨ n = 6 ∨ n = 7 ∨ n = 8 by omega) with rfl | rfl | rfl | rfl | rfl | rfl | rfl | rfl <;> simp [pw]
def getG (L : List Int) : Nat → Int → Nat → Int × Int × Int
  | 0, _, _ => (0, 0, 2)
  | f + 1, v, a => if a = L.length then (0, 0, 3) else
    if 2147483647 < v + L.getD a 0 % 128 * 2 ^ (7 * (4 - f)) then (0, 0, 2) else
    if L.getD a 0 < 128 then (v + L.getD a 0 % 128 * 2 ^ (7 * (4 - f)), (a : Int) + 1, 0) else getG L f (v + L.getD a 0 % 128 * 2 ^ (7 * (4 - f))) (a + 1)
def getL (L : List Int) (a n : Int) : Int × Int × Int :=
  if n < 1 ∨ 8 < n ∨ a < 0 ∨ (L.length : Int) < a then (0, 0, 1) else if a = L.length then (0, 0, 3) else
  if L.getD a.toNat 0 % pw n < pw n - 1 then (L.getD a.toNat 0 % pw n, a + 1, 0) else getG L 5 (L.getD a.toNat 0 % pw n) (a.toNat + 1)
abbrev tup (r : Int × Int × Int) : Value := .tuple #[.int .i64 r.1, .int .i64 r.2.1, .int .i64 r.2.2]

theorem i64_and_nat (a b : Nat) (ha : a < 9223372036854775808) (hb : b < 9223372036854775808) : bits .and .i64 (a : Int) (b : Int) = ((a &&& b : Nat) : Int) := by
  have e : ∀ c : Nat, c < 9223372036854775808 → (BitVec.ofInt 64 (c : Int)).toNat = c := fun c hc => by rw [BitVec.ofInt_natCast, BitVec.toNat_ofNat]; exact Nat.mod_eq_of_lt (by omega)
  show IntKind.i64.wrap ((BitVec.ofInt 64 (a : Int) &&& BitVec.ofInt 64 (b : Int)).toNat : Int) = _
  rw [BitVec.toNat_and, e a ha, e b hb, IntKind.wrap_i64]
  have : a &&& b ≤ a := Nat.and_le_left
  omega
theorem and_pw (c n : Int) (h1 : 1 ≤ n) (h2 : n ≤ 8) (c0 : 0 ≤ c) (c1 : c ≤ 255) : bits .and .i64 c (pw n - 1) = c % pw n := by
  obtain ⟨k, rfl⟩ := Int.eq_ofNat_of_zero_le c0
  have key : ∀ m : Nat, m ≤ 8 → bits .and .i64 (k : Int) (((2 ^ m - 1 : Nat)) : Int) = ((k % 2 ^ m : Nat) : Int) := fun m hm => by
    have : 2 ^ m ≤ 2 ^ 8 := Nat.pow_le_pow_right (by decide) hm
    rw [i64_and_nat _ _ (by omega) (by omega), Nat.and_two_pow_sub_one_eq_mod]
  rcases pw_cases h1 h2 with ⟨rfl, e⟩ | ⟨rfl, e⟩ | ⟨rfl, e⟩ | ⟨rfl, e⟩ | ⟨rfl, e⟩ | ⟨rfl, e⟩ | ⟨rfl, e⟩ | ⟨rfl, e⟩ <;> rw [e]
  · exact key 1 (by decide)
  · exact key 2 (by decide)
  · exact key 3 (by decide)
  · exact key 4 (by decide)
  · exact key 5 (by decide)
  · exact key 6 (by decide)
  · exact key 7 (by decide)
  · exact key 8 (by decide)
/-- The first byte: top's bits, and the number's. -/
theorem head_key (t v m : Nat) (hm : m ≤ 8) (ht : t < 256) (hv : v < 2 ^ m) : ((t &&& (255 - (2 ^ m - 1))) ||| v) = t / 2 ^ m * 2 ^ m + v := by
  have hp : 2 ^ m ≤ 2 ^ 8 := Nat.pow_le_pow_right (by decide) hm
  have e1 : t &&& (255 - (2 ^ m - 1)) = 2 ^ m * (t / 2 ^ m) := by
    apply Nat.eq_of_testBit_eq
    intro i
    rw [Nat.testBit_and, Nat.testBit_two_pow_mul, Nat.testBit_div_two_pow]
    by_cases hi : i < 8
    · have hx : (255 - (2 ^ m - 1)).testBit i = decide (m ≤ i) := by
        rcases (show m = 0 ∨ m = 1 ∨ m = 2 ∨ m = 3 ∨ m = 4 ∨ m = 5 ∨ m = 6 ∨ m = 7 ∨ m = 8 by omega) with rfl | rfl | rfl | rfl | rfl | rfl | rfl | rfl | rfl <;>
        rcases (show i = 0 ∨ i = 1 ∨ i = 2 ∨ i = 3 ∨ i = 4 ∨ i = 5 ∨ i = 6 ∨ i = 7 by omega) with rfl | rfl | rfl | rfl | rfl | rfl | rfl | rfl <;> decide
      rw [hx]
      by_cases hmi : m ≤ i
      · simp [hmi, show i - m + m = i by omega]
      · simp [hmi]
    · have h2 : t.testBit i = false := Nat.testBit_lt_two_pow (Nat.lt_of_lt_of_le ht (by have : 2 ^ 8 ≤ 2 ^ i := Nat.pow_le_pow_right (by decide) (by omega); omega))
      rw [h2, Bool.false_and]
      by_cases hmi : m ≤ i
      · simp [hmi, show i - m + m = i by omega, h2]
      · simp [hmi]
  rw [e1, Nat.mul_comm (2 ^ m), Nat.mul_comm (t / 2 ^ m), ← Nat.two_pow_add_eq_or_of_lt hv]
theorem u8_head (t v n : Int) (h1 : 1 ≤ n) (h2 : n ≤ 8) (t0 : 0 ≤ t) (t1 : t ≤ 255) (v0 : 0 ≤ v) (v1 : v < pw n) : bits .or .u8 (bits .andNot .u8 t (pw n - 1)) v = t / pw n * pw n + v := by
  obtain ⟨a, rfl⟩ := Int.eq_ofNat_of_zero_le t0
  obtain ⟨b, rfl⟩ := Int.eq_ofNat_of_zero_le v0
  have key : ∀ m : Nat, m ≤ 8 → b < 2 ^ m → bits .or .u8 (bits .andNot .u8 (a : Int) (((2 ^ m - 1 : Nat)) : Int)) (b : Int) = ((a / 2 ^ m * 2 ^ m + b : Nat) : Int) := fun m hm hb => by
    have : 2 ^ m ≤ 2 ^ 8 := Nat.pow_le_pow_right (by decide) hm
    rw [u8_andNot_nat _ _ (by omega) (by omega), u8_or_nat _ _ (Nat.lt_of_le_of_lt Nat.and_le_left (by omega)) (by omega), head_key a b m hm (by omega) hb]
  rcases pw_cases h1 h2 with ⟨rfl, e⟩ | ⟨rfl, e⟩ | ⟨rfl, e⟩ | ⟨rfl, e⟩ | ⟨rfl, e⟩ | ⟨rfl, e⟩ | ⟨rfl, e⟩ | ⟨rfl, e⟩ <;> rw [e] at v1 ⊢
  · exact key 1 (by decide) (by omega)
  · exact key 2 (by decide) (by omega)
  · exact key 3 (by decide) (by omega)
  · exact key 4 (by decide) (by omega)
  · exact key 5 (by decide) (by omega)
  · exact key 6 (by decide) (by omega)
  · exact key 7 (by decide) (by omega)
  · exact key 8 (by decide) (by omega)
/-- All of the number's bits. -/
theorem or_key (t m : Nat) (hm : m ≤ 8) (ht : t < 256) : (t ||| (2 ^ m - 1)) = t / 2 ^ m * 2 ^ m + (2 ^ m - 1) := by
  have hp : 0 < 2 ^ m := Nat.two_pow_pos m
  rw [Nat.mul_comm, Nat.two_pow_add_eq_or_of_lt (by omega)]
  apply Nat.eq_of_testBit_eq
  intro i
  rw [Nat.testBit_or, Nat.testBit_or, Nat.testBit_two_pow_mul, Nat.testBit_div_two_pow, Nat.testBit_two_pow_sub_one]
  by_cases hmi : m ≤ i
  · simp [hmi, show i - m + m = i by omega]
  · simp [show i < m by omega]
theorem u8_or_mask (t n : Int) (h1 : 1 ≤ n) (h2 : n ≤ 8) (t0 : 0 ≤ t) (t1 : t ≤ 255) : bits .or .u8 t (pw n - 1) = t / pw n * pw n + (pw n - 1) := by
  obtain ⟨a, rfl⟩ := Int.eq_ofNat_of_zero_le t0
  have key : ∀ m : Nat, m ≤ 8 → bits .or .u8 (a : Int) (((2 ^ m - 1 : Nat)) : Int) = ((a / 2 ^ m * 2 ^ m + (2 ^ m - 1) : Nat) : Int) := fun m hm => by
    have : 2 ^ m ≤ 2 ^ 8 := Nat.pow_le_pow_right (by decide) hm
    rw [u8_or_nat _ _ (by omega) (by omega), or_key a m hm (by omega)]
  rcases pw_cases h1 h2 with ⟨rfl, e⟩ | ⟨rfl, e⟩ | ⟨rfl, e⟩ | ⟨rfl, e⟩ | ⟨rfl, e⟩ | ⟨rfl, e⟩ | ⟨rfl, e⟩ | ⟨rfl, e⟩ <;> rw [e]
  · exact key 1 (by decide)
  · exact key 2 (by decide)
  · exact key 3 (by decide)
  · exact key 4 (by decide)
  · exact key 5 (by decide)
  · exact key 6 (by decide)
  · exact key 7 (by decide)
  · exact key 8 (by decide)

theorem full_any (n : Int) (w : World) (h1 : 1 ≤ n) (h2 : n ≤ 8) : Calls Tryz.prog 208 #[.int .i64 n] w fun e w' => e = .returned (.int .i64 (pw n - 1)) ∧ w = w' := by
  rcases pw_cases h1 h2 with ⟨rfl, e⟩ | ⟨rfl, e⟩ | ⟨rfl, e⟩ | ⟨rfl, e⟩ | ⟨rfl, e⟩ | ⟨rfl, e⟩ | ⟨rfl, e⟩ | ⟨rfl, e⟩ <;> rw [e] <;>
  · go_enter Tryz.func208, Tryz.ntmps208
    go_wp2
    go_returns
    exact ⟨rfl, rfl⟩
open Go.ChangeShapes Go.WideShapes Go.ChangeAt Go.RowKit
set_option linter.unusedVariables false
set_option linter.unusedSimpArgs false

theorem run_append_nil_src {P : Program} (w : World) (base : Nat) (t ty e : TypeId) (i : TypeInfo) (size : Nat) (ht : P.underlying t = some (.slice e)) (hi : P.info? e = some i)
    (v : Value) (n : Nat) (xs : List Value) (hown : w.ownsRow base e size v n xs) (c : Nat) : (Builtin.append_ #[t, t] ty #[v, .slice none 0 c]).run P w = .ok v w := by
  rcases hown.2 with ⟨rfl, rfl⟩ | ⟨g, cap, cur, rfl, _, _, hnc, _⟩
  · simp [Builtin.append_, run_underlying ht, sizeOf, typeInfo, hi, Builtin.lenOf, Builtin.firstCells]
  · simp [Builtin.append_, run_underlying ht, sizeOf, typeInfo, hi, Builtin.lenOf, Builtin.firstCells, hnc, storeCells]

/-- At the operation: the source may be nil, empty or not. -/
theorem wp_append_src {P : Program} {w : World} {o : Oper} {a : Act} {K : Act → World → Prop} {Q : Exit → Act → World → Prop} (s x : Operand) (t : TypeId)
    (ho : o.op = .call { callee := .builtin .append, args := #[s, x], argTypes := #[t, t] })
    (base : Nat) (e : TypeId) (i : TypeInfo) (z : Value) (size bytes : Nat) (ht : P.underlying t = some (.slice e)) (hi : P.info? e = some i) (hz : i.zero = some z)
    (hsize : i.size = size) (hby : i.bytes = bytes) (hzs : z.cells.size = size) (hsz : 0 < size)
    (v : Value) (n : Nat) (xs : List Value) (hs : a.eval s = v) (hown : w.ownsRow base e size v n xs)
    (A : Option Addr) (m c : Nat) (news : List Value) (hx : a.eval x = .slice A m c) (hA : A = none → m = 0) (hl : news.length = m * size) (hnews : ∀ ad, A = some ad → ∀ j u, news[j]? = some u → w.cell? (ad.add j) = some u) (h1 : ∀ u ∈ news, u.oneCell' = true)
    (h63 : n + m ≤ maxLen) (hbytes : (n + m) * bytes ≤ 140737488355328) (hbase : base ≤ w.heap.size)
    (h : ∀ v' w', w'.ownsRow base e size v' (n + m) (xs ++ news) → w.grownBy w' v.ownBlock → K (a.put o.dst v') w') : Oper.wp P o a w K Q := by
  cases A with
  | some ad => exact wp_append_own w s x t ho base e i z size bytes ht hi hz hsize hby hzs hsz v n xs hs hown ad m c news hx hl (hnews ad rfl) h1 h63 hbytes hbase fun v' w' h2 h3 _ => h v' w' h2 h3
  | none =>
    obtain rfl := hA rfl
    have hn : news = [] := List.eq_nil_of_length_eq_zero (by simpa using hl)
    subst hn
    have hrun := run_append_nil_src (P := P) w base t o.type e i size ht hi v n xs hown c
    unfold Oper.wp
    simp [Go.execOp, ho, Go.resolve, Go.invoke, Go.builtin, hs, hx, hrun, Result.andThen]
    exact h v w (by simpa using hown) (World.grownBy.refl w _)
/-- At a step of a region that draws its order. -/
theorem step_append_src {P : Program} {w : World} {ops : Array Oper} {o : Oper} {a : Act} {K : Act → World → Prop} {Q : Exit → Act → World → Prop} {E : Prop} (hgd : o.guard = none) (s x : Operand) (t : TypeId)
    (ho : o.op = .call { callee := .builtin .append, args := #[s, x], argTypes := #[t, t] })
    (base : Nat) (e : TypeId) (i : TypeInfo) (z : Value) (size bytes : Nat) (ht : P.underlying t = some (.slice e)) (hi : P.info? e = some i) (hz : i.zero = some z)
    (hsize : i.size = size) (hby : i.bytes = bytes) (hzs : z.cells.size = size) (hsz : 0 < size)
    (v : Value) (n : Nat) (xs : List Value) (hs : a.eval s = v) (hown : w.ownsRow base e size v n xs)
    (A : Option Addr) (m c : Nat) (news : List Value) (hx : a.eval x = .slice A m c) (hA : A = none → m = 0) (hl : news.length = m * size) (hnews : ∀ ad, A = some ad → ∀ j u, news[j]? = some u → w.cell? (ad.add j) = some u) (h1 : ∀ u ∈ news, u.oneCell' = true)
    (h63 : n + m ≤ maxLen) (hbytes : (n + m) * bytes ≤ 140737488355328) (hbase : base ≤ w.heap.size)
    (h : ∀ v' w', w'.ownsRow base e size v' (n + m) (xs ++ news) → w.grownBy w' v.ownBlock → K (a.put o.dst v') w') :
    if Region.wanted o (yielded ops a.tmps) = true then Oper.wp P o a w K Q else E := by
  have hw : Region.wanted o (yielded ops a.tmps) = true := by simp [Region.wanted, hgd]
  rw [if_pos hw]
  exact wp_append_src s x t ho base e i z size bytes ht hi hz hsize hby hzs hsz v n xs hs hown A m c news hx hA hl hnews h1 h63 hbytes hbase h
/-- In a plain region. -/
theorem wpList_append_src {P : Program} {w : World} {ops : Array Oper} {rest : List Oper} {o : Oper} {a : Act} {Q : Exit → Act → World → Prop} (hgd : o.guard = none) (s x : Operand) (t : TypeId)
    (ho : o.op = .call { callee := .builtin .append, args := #[s, x], argTypes := #[t, t] })
    (base : Nat) (e : TypeId) (i : TypeInfo) (z : Value) (size bytes : Nat) (ht : P.underlying t = some (.slice e)) (hi : P.info? e = some i) (hz : i.zero = some z)
    (hsize : i.size = size) (hby : i.bytes = bytes) (hzs : z.cells.size = size) (hsz : 0 < size)
    (v : Value) (n : Nat) (xs : List Value) (hs : a.eval s = v) (hown : w.ownsRow base e size v n xs)
    (A : Option Addr) (m c : Nat) (news : List Value) (hx : a.eval x = .slice A m c) (hA : A = none → m = 0) (hl : news.length = m * size) (hnews : ∀ ad, A = some ad → ∀ j u, news[j]? = some u → w.cell? (ad.add j) = some u) (h1 : ∀ u ∈ news, u.oneCell' = true)
    (h63 : n + m ≤ maxLen) (hbytes : (n + m) * bytes ≤ 140737488355328) (hbase : base ≤ w.heap.size)
    (h : ∀ v' w', w'.ownsRow base e size v' (n + m) (xs ++ news) → w.grownBy w' v.ownBlock → wpList P ops Q rest (a.put o.dst v') w') : wpList P ops Q (o :: rest) a w :=
  wpList_plain hgd fun _ hK => wp_append_src s x t ho base e i z size bytes ht hi hz hsize hby hzs hsz v n xs hs hown A m c news hx hA hl hnews h1 h63 hbytes hbase fun v' w' h2 h3 => hK _ _ (h v' w' h2 h3)

/-- The cells of n settings. -/
theorem own_blk {w : World} {B g n : Nat} {e : TypeId} {sz : Nat} {xs : List Value} (h : w.ownsRow B e sz (.slice (some ⟨g, 0, none⟩) n n) n xs) : Blk w g e xs.toArray := by
  rcases h.2 with ⟨h', _⟩ | ⟨g', cap, cur, h', _, hh, _, _, hs, ht⟩
  · simp at h'
  · simp only [Value.slice.injEq, Option.some.injEq, Addr.mk.injEq, and_true, true_and] at h'
    obtain ⟨rfl, rfl⟩ := h'
    have : cur.toList = xs := by rw [← ht, List.take_of_length_le (by simp; omega)]
    rw [← this]
    simpa [Blk] using hh


theorem info5 : (Tryz.prog.info? 5).map (fun i => (i.zero, i.size, i.bytes)) = some (some (.int .u8 0), 1, 1) := by kernel_rfl
theorem bv_len (L : List Int) : (bv L).length = L.length := by simp [bv]
theorem bv_get (L : List Int) (i : Nat) (h : i < L.length) : (bv L)[i]? = some (.int .u8 (L.getD i 0)) := by
  rw [bv, List.getElem?_map, List.getElem?_eq_getElem h, List.getD_eq_getElem?_getD, List.getElem?_eq_getElem h]; rfl
theorem bv_one (L : List Int) : ∀ u ∈ bv L, u.oneCell' = true := fun u hu => by
  obtain ⟨x, _, rfl⟩ := List.mem_map.1 hu; rfl
theorem bv_app (L M : List Int) : bv L ++ bv M = bv (L ++ M) := by simp [bv]
theorem bs_own {w : World} {B : Nat} {v : Value} {n : Nat} {L : List Int} (h : w.ownsRow B 5 1 v n (bv L)) (hn : n = L.length) : BS w v L := by
  subst hn
  have hlt := h.lt
  rcases h.2 with ⟨rfl, he⟩ | ⟨g, cap, cur, rfl, hB, hh, hkc, hm, hs, ht⟩
  · have : L = [] := by cases L with
      | nil => rfl
      | cons a l => simp [bv] at he
    subst this
    exact ⟨_, _, rfl, Nat.le_refl _, trivial, fun h => absurd h (Nat.lt_irrefl _)⟩
  · refine ⟨_, _, rfl, hkc, trivial, fun _ => ⟨g, 0, rfl, (hlt g rfl).2, fun i j hi hj => ?_⟩⟩
    obtain rfl : j = 0 := by omega
    have := h.cellAt i (by omega)
    rw [show (0 + (i * 1 + 0)) = i by omega, this]
    exact bv_get L i hi
theorem bs_src {w : World} {A : Option Addr} {n cap : Nat} {L : List Int} (h : BS w (.slice A n cap) L) :
    n = L.length ∧ (A = none → n = 0) ∧ ∀ ad, A = some ad → ∀ j u, (bv L)[j]? = some u → w.cell? (ad.add j) = some u := by
  obtain ⟨A', cap', he, h2, h3, hc⟩ := h
  cases he
  refine ⟨rfl, fun hA => ?_, fun ad hA j u hj => ?_⟩
  · rcases Nat.eq_zero_or_pos L.length with h | h
    · exact h
    · obtain ⟨b, off, hb, _⟩ := hc h
      rw [hA] at hb; cases hb
  · have hjl : j < L.length := by
      rcases Nat.lt_or_ge j L.length with h | h
      · exact h
      · rw [List.getElem?_eq_none (by rw [bv_len]; exact h)] at hj; cases hj
    obtain ⟨b, off, hb, hlt, hq⟩ := hc (by omega)
    rw [hA] at hb
    cases hb
    have := hq j 0 hjl (by omega)
    rw [bv_get L j hjl] at hj
    cases hj
    rw [add_plain]
    simpa using this
theorem bs_take {w : World} {A : Option Addr} {n cap m : Nat} {L : List Int} (h : BS w (.slice A n cap) L) (hm : m ≤ L.length) : BS w (.slice A m cap) (L.take m) := by
  obtain ⟨A', cap', he, h2, h3, hc⟩ := h
  cases he
  have e : (L.take m).length = m := by simp; omega
  refine ⟨_, _, by rw [e], by omega, h3, fun h0 => ?_⟩
  obtain ⟨b, off, hb, hlt, hq⟩ := hc (by omega)
  refine ⟨b, off, hb, hlt, fun i j hi hj => ?_⟩
  rw [hq i j (by omega) hj]
  show some (Value.int .u8 (L.getD i 0)) = some (Value.int .u8 ((L.take m).getD i 0))
  rw [List.getD_eq_getElem?_getD, List.getD_eq_getElem?_getD, List.getElem?_take_of_lt (by omega)]
open Go.ChangeShapes Go.WideShapes Go.ChangeAt Go.RowKit
set_option linter.unusedVariables false
set_option linter.unusedSimpArgs false

theorem nat_or128 : ∀ y : Fin 256, (y.val ||| 128) = y.val % 128 + 128 := by decide +kernel
theorem u8_or128 (y : Int) (h0 : 0 ≤ y) (h1 : y ≤ 255) : bits .or .u8 y 128 = y % 128 + 128 := by
  obtain ⟨a, rfl⟩ := Int.eq_ofNat_of_zero_le h0
  have := nat_or128 ⟨a, by omega⟩
  rw [show (128 : Int) = ((128 : Nat) : Int) from rfl, u8_or_nat _ _ (by omega) (by omega), this]
  simp
theorem wrap_u8_is (x : Int) : IntKind.u8.wrap x = x % 256 := by simp [IntKind.wrap, IntKind.bits, IntKind.signed]
theorem tail_small (f : Nat) (x : Int) (h : x < 128) : tailL f x = [x] := by
  cases f with
  | zero => rfl
  | succ f => rw [tailL, if_pos h]
theorem tail_big (f : Nat) (x : Int) (h : ¬ x < 128) : tailL (f + 1) x = (x % 128 + 128) :: tailL f (x / 128) := by rw [tailL, if_neg h]
end Go.AM.Pi
namespace Go.AM.Pi
open Go Go.Proofs Go.ChangeShapes Go.WideShapes Go.ChangeAt Go.RowKit
set_option linter.unusedVariables false
set_option linter.unusedSimpArgs false
/-! # pint.Put -/
set_option linter.unusedVariables false
set_option linter.unusedSimpArgs false

set_option maxHeartbeats 2000000 in
set_option maxRecDepth 100000 in
theorem put_any (v : Value) (L : List Int) (n t x : Int) (w : World) (hR : BS w v L) (hn : L.length ≤ 140737488351232)
    (n1 : -9223372036854775808 ≤ n) (n2 : n ≤ 9223372036854775807) (t1 : 0 ≤ t) (t2 : t ≤ 255) (x1 : -9223372036854775808 ≤ x) (x2 : x ≤ 9223372036854775807) :
    Calls Tryz.prog 169 #[v, .int .i64 n, .int .u8 t, .int .i64 x] w fun e w' => ∃ r, e = .returned r ∧ w'.ownsRow w.heap.size 5 1 r (L ++ putL n t x).length (bv (L ++ putL n t x)) ∧ Below w.heap.size w w' := by
  have HR := Lib.hid hR
  obtain ⟨A, cap, rfl, hlc, hcm, hcell⟩ := hR
  clear hcell
  obtain ⟨i0, hi, hz0, hz1, hz2⟩ := info_parts info5
  generalize hres : putL n t x = res
  unfold putL at hres
  generalize hnl : L.length = nl at *
  go_enter Tryz.func169, Tryz.ntmps169
  go_upto_region 2 with (first
    | (refine wpList_make_own _ rfl (.const (.int .i64 0)) (.tmp 14) 81 rfl w.heap.size 5 i0 _ 1 Tryz.underlying81 hi hz0 hz1 .i64 .i64 _ (nl+6) rfl rfl (by omega) (by rw [hz2]; omega) (by unfold maxLen; omega) (by go_size) ?_
       intro w1 hown1 hg1))
  have hB1 : Below w.heap.size w w1 := Below.grown (by go_grown) hg1 (by go_size) (fun g hg => by cases hg)
  have HO := Lib.hid hown1
  have hs1 := hB1.size
  have HR1 := Lib.hid (HR.out.below hB1 (Nat.le_refl _))
  clear hown1 hg1
  go_upto_region 3 with (first
    | (at_builtin
       refine wpList_append_src rfl (.tmp 16) (.tmp 17) 81 rfl w.heap.size 5 i0 _ 1 1 Tryz.underlying81 hi hz0 hz1 hz2 rfl (by decide) _ 0 [] rfl HO.out A nl cap (bv L) rfl (bs_src HR1.out).2.1 (by rw [bv_len, hnl, Nat.mul_one]) (bs_src HR1.out).2.2 (bv_one _) (by unfold maxLen; omega) (by omega) (by go_size) ?_
       intro v2 w2 hown2 hg2))
  rw [List.nil_append, Nat.zero_add] at hown2
  have hB2 : Below w.heap.size w w2 := Below.grown (w := _) hB1 hg2 (by go_size) (fun g hg => (HO.out.lt g hg).1)
  have hs2 := hB2.size
  clear HO HR1 hg2 hB1 hs1
  have HO := Lib.hid hown2
  clear hown2
  by_cases hbad : n < 1 ∨ 8 < n ∨ x < 0 ∨ 2147483647 < x
  · rw [if_pos hbad] at hres
    subst hres
    rcases (show n < 1 ∨ (1 ≤ n ∧ 8 < n) ∨ (1 ≤ n ∧ n ≤ 8 ∧ x < 0) ∨ (1 ≤ n ∧ n ≤ 8 ∧ 0 ≤ x ∧ 2147483647 < x) by omega) with g1 | ⟨g1, g2⟩ | ⟨g1, g2, g3⟩ | ⟨g1, g2, g3, g4⟩ <;>
    · go_wp2_with fail
      go_ret
      exact ⟨_, rfl, by rw [List.append_nil, hnl]; exact HO.out, hB2⟩
  rw [if_neg hbad] at hres
  have h1 : 1 ≤ n := by omega
  have h2 : n ≤ 8 := by omega
  have h3 : 0 ≤ x := by omega
  have h4 : x ≤ 2147483647 := by omega
  have hb1 : ¬ n < 1 := by omega
  have hb2 : ¬ 8 < n := by omega
  have hb3 : ¬ x < 0 := by omega
  have hp : 2 ≤ pw n ∧ pw n ≤ 256 := by rcases pw_cases h1 h2 with ⟨rfl, e⟩ | ⟨rfl, e⟩ | ⟨rfl, e⟩ | ⟨rfl, e⟩ | ⟨rfl, e⟩ | ⟨rfl, e⟩ | ⟨rfl, e⟩ | ⟨rfl, e⟩ <;> rw [e] <;> omega
  have hwm : IntKind.u8.wrap (pw n - 1) = pw n - 1 := by rw [wrap_u8_is]; omega
  by_cases hlt : x < pw n - 1
  · rw [if_pos hlt] at hres
    have hwx : IntKind.u8.wrap x = x := by rw [wrap_u8_is]; omega
    have hhd := u8_head t x n h1 h2 t1 t2 h3 (by omega)
    generalize t / pw n * pw n + x = hd at *
    subst hres
    go_upto_region 7 with (go_at_call 208; refine (full_any _ _ h1 h2).mono ?_; rintro e w1 ⟨rfl, rfl⟩)
    have hN := World.news_of_block (w := w2.alloc (.cells #[.int .u8 (hd)] 5)) (B := w2.heap.size) (heap_alloc_new w2 _)
    have HN := Lib.hid hN
    have HOa := Lib.hid (HO.out.alloc (.cells #[.int .u8 (hd)] 5))
    clear hN
    go_wp2_with (first
      | (at_builtin
         refine wpList_append_src rfl (.tmp 39) (.tmp 47) 81 rfl w.heap.size 5 i0 _ 1 1 Tryz.underlying81 hi hz0 hz1 hz2 rfl (by decide) v2 nl (bv (L)) rfl HOa.out (some ⟨w2.heap.size, 0, none⟩) 1 1 (bv [hd]) rfl (by simp) rfl (fun ad had j u hu => by cases had; exact HN.out j u hu) (bv_one _) (by unfold maxLen; omega) (by omega) (by go_size) ?_
         intro v3 w3 hown hg))
    have hw3 : Below w.heap.size w w3 := Below.grown (w := _) (by go_grown) hg (by go_size) (fun g hg => (HOa.out.lt g hg).1)
    have hsw3 := hw3.size
    rw [bv_app] at hown
    clear hg HOa HN
    go_ret
    exact ⟨v3, rfl, by first | exact hown | simpa [hnl] using hown, hw3⟩
  rw [if_neg hlt] at hres
  have hhd := u8_or_mask t n h1 h2 t1 t2
  generalize t / pw n * pw n + (pw n - 1) = hd at *
  go_upto_region 8 with (go_at_call 208; refine (full_any _ _ h1 h2).mono ?_; rintro e w1 ⟨rfl, rfl⟩)
  have hN := World.news_of_block (w := w2.alloc (.cells #[.int .u8 (hd)] 5)) (B := w2.heap.size) (heap_alloc_new w2 _)
  have HN := Lib.hid hN
  have HOa := Lib.hid (HO.out.alloc (.cells #[.int .u8 (hd)] 5))
  clear hN
  go_upto_region 9 with (first
    | (at_builtin
       refine wpList_append_src rfl (.tmp 49) (.tmp 54) 81 rfl w.heap.size 5 i0 _ 1 1 Tryz.underlying81 hi hz0 hz1 hz2 rfl (by decide) v2 nl (bv (L)) rfl HOa.out (some ⟨w2.heap.size, 0, none⟩) 1 1 (bv [hd]) rfl (by simp) rfl (fun ad had j u hu => by cases had; exact HN.out j u hu) (bv_one _) (by unfold maxLen; omega) (by omega) (by go_size) ?_
       intro v3 w3 hown hg))
  have hw3 : Below w.heap.size w w3 := Below.grown (w := _) (by go_grown) hg (by go_size) (fun g hg => (HOa.out.lt g hg).1)
  have hsw3 := hw3.size
  rw [bv_app] at hown
  clear hg HOa HN
  have HO3 := Lib.hid hown
  clear hown HO
  go_wp2_with fail
  go_loopw [3, 9] (fun s3 s9 wr => ∃ (f : Nat) (y : Int) (M : List Int), s3 = .int .i64 y ∧ 0 ≤ y ∧ y ≤ 2147483647 ∧ f ≤ 5 ∧ y < 128 ^ (f + 1) ∧ M.length + f ≤ nl + 6 ∧ M ++ tailL f y = L ++ res ∧ Hid (wr.ownsRow w.heap.size 5 1 s9 M.length (bv M)) ∧ Below w.heap.size w wr) (fun s3 _ _ => (intOf s3).toNat)
  case atStart => exact ⟨5, x - (pw n - 1), L ++ [hd], by go_num, by omega, by omega, by omega, by simp; omega, by simp; omega, by rw [← hres]; simp, by simpa [hnl] using HO3, hw3⟩
  case round =>
    obtain ⟨f, y, M, rfl, hy0, hy1, hf, hyf, hM, hT, hO, hB⟩ := hrel
    have hwr := hB.size
    by_cases hb : y < 128
    · have hw : IntKind.u8.wrap y = y := by rw [wrap_u8_is]; omega
      rw [tail_small f y hb] at hT
      have hN := World.news_of_block (w := wr.alloc (.cells #[.int .u8 (y)] 5)) (B := wr.heap.size) (heap_alloc_new wr _)
      have HN := Lib.hid hN
      have HOa := Lib.hid (hO.out.alloc (.cells #[.int .u8 (y)] 5))
      clear hN
      go_wp2_with (first
        | (at_builtin
           refine wpList_append_src rfl (.tmp 69) (.tmp 72) 81 rfl w.heap.size 5 i0 _ 1 1 Tryz.underlying81 hi hz0 hz1 hz2 rfl (by decide) _ M.length (bv (M)) rfl HOa.out (some ⟨wr.heap.size, 0, none⟩) 1 1 (bv [y]) rfl (by simp) rfl (fun ad had j u hu => by cases had; exact HN.out j u hu) (bv_one _) (by unfold maxLen; omega) (by omega) (by go_size) ?_
           intro r2 w4 hown hg))
      have hw4 : Below w.heap.size w w4 := Below.grown (w := _) (by go_grown) hg (by go_size) (fun g hg => (HOa.out.lt g hg).1)
      have hsw4 := hw4.size
      rw [bv_app] at hown
      clear hg HOa HN
      go_ret
      have hl := congrArg List.length hT
      simp [hnl] at hl
      exact ⟨r2, rfl, by simp only [List.length_append, hnl, ← hl]; rw [← hT]; exact hown, hw4⟩
    · cases f with
      | zero => simp at hyf; omega
      | succ g =>
        have hw : IntKind.u8.wrap y = y % 256 := wrap_u8_is y
        have hor : bits .or .u8 (y % 256) 128 = y % 128 + 128 := by rw [u8_or128 _ (by omega) (by omega)]; omega
        rw [tail_big g y hb] at hT
        have hyf' : y / 128 < 128 ^ (g + 1) := Int.ediv_lt_of_lt_mul (by decide) (by rw [Int.pow_succ] at hyf; exact hyf)
        clear hyf
        have hN := World.news_of_block (w := wr.alloc (.cells #[.int .u8 (y % 128 + 128)] 5)) (B := wr.heap.size) (heap_alloc_new wr _)
        have HN := Lib.hid hN
        have HOa := Lib.hid (hO.out.alloc (.cells #[.int .u8 (y % 128 + 128)] 5))
        clear hN
        go_wp2_with (first
          | (at_builtin
             refine wpList_append_src rfl (.tmp 61) (.tmp 65) 81 rfl w.heap.size 5 i0 _ 1 1 Tryz.underlying81 hi hz0 hz1 hz2 rfl (by decide) _ M.length (bv (M)) rfl HOa.out (some ⟨wr.heap.size, 0, none⟩) 1 1 (bv [y % 128 + 128]) rfl (by simp) rfl (fun ad had j u hu => by cases had; exact HN.out j u hu) (bv_one _) (by unfold maxLen; omega) (by omega) (by go_size) ?_
             intro r2 w4 hown hg))
        have hw4 : Below w.heap.size w w4 := Below.grown (w := _) (by go_grown) hg (by go_size) (fun g hg => (HOa.out.lt g hg).1)
        have hsw4 := hw4.size
        rw [bv_app] at hown
        clear hg HOa HN
        have HO4 := Lib.hid hown
        clear hown hO
        go_roundw
        case rel =>
          exact ⟨g, y / 128, M ++ [y % 128 + 128], by go_num, by omega, by omega, by omega, hyf', by simp; omega, by rw [List.append_assoc]; exact hT, by simpa using HO4, hw4⟩
        case measure => simp [intOf]; omega
end Go.AM.Pi
