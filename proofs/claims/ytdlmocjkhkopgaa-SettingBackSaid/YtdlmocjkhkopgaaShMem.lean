/- The shapes, turned from w10: lists of bytes. -/
import Derived.Test.YtdlmocjkhkopgaaShKit
import Derived.Laws.AppendOwn
import Derived.Laws.CopyOwn
import Derived.OwnWalk
import Derived.BigQuiet
import Derived.Lib.QuietBelow
import Derived.Laws.OwnMore
import Derived.Carry
import Derived.Deep.DeepCutAuto
namespace Go.Proofs.Ytdlmocjkhkopgaa.Sh
open Go.ChangeShapes Go.WideShapes Go.ChangeAt Go.RowKit
set_option linter.unusedVariables false
set_option linter.unusedSimpArgs false

theorem run_append_nil_src {P : Program} (w : World) (base : Nat) (t ty e : TypeId) (i : TypeInfo) (size : Nat) (ht : P.underlying t = some (.slice e)) (hi : P.info? e = some i)
    (v : Value) (n : Nat) (xs : List Value) (hown : w.ownsRow base e size v n xs) (c : Nat) : (Builtin.append_ #[t, t] ty #[v, .slice none 0 c]).run P w = .ok v w := by
  rcases hown.2 with ⟨rfl, rfl⟩ | ⟨g, cap, cur, rfl, _, _, hnc, _⟩
  · simp [Builtin.append_, run_underlying ht, sizeOf, typeInfo, hi, Builtin.lenOf, Builtin.firstCells]
  · simp [Builtin.append_, run_underlying ht, sizeOf, typeInfo, hi, Builtin.lenOf, Builtin.firstCells, hnc, storeCells]

/-- At the operation: the source may be nil, empty or not. -/
theorem wp_append_src {P : Program} {w : World} {o : Oper} {a : Act} {K : Act → World → Prop} {Q : Exit → Act → World → Prop} (s x : Operand) (t : TypeId)
    (ho : o.op = .call { callee := .builtin .append, args := #[s, x], argTypes := #[t, t] })
    (base : Nat) (e : TypeId) (i : TypeInfo) (z : Value) (size bytes : Nat) (ht : P.underlying t = some (.slice e)) (hi : P.info? e = some i) (hz : i.zero = some z)
    (hsize : i.size = size) (hby : i.bytes = bytes) (hzs : z.cells.size = size) (hsz : 0 < size)
    (v : Value) (n : Nat) (xs : List Value) (hs : a.eval s = v) (hown : w.ownsRow base e size v n xs)
    (A : Option Addr) (m c : Nat) (news : List Value) (hx : a.eval x = .slice A m c) (hA : A = none → m = 0) (hl : news.length = m * size) (hnews : ∀ ad, A = some ad → ∀ j u, news[j]? = some u → w.cell? (ad.add j) = some u) (h1 : ∀ u ∈ news, u.oneCell' = true)
    (h63 : n + m ≤ maxLen) (hbytes : (n + m) * bytes ≤ 140737488355328) (hbase : base ≤ w.heap.size)
    (h : ∀ v' w', w'.ownsRow base e size v' (n + m) (xs ++ news) → w.grownBy w' v.ownBlock → K (a.put o.dst v') w') : Oper.wp P o a w K Q := by
  cases A with
  | some ad => exact wp_append_own w s x t ho base e i z size bytes ht hi hz hsize hby hzs hsz v n xs hs hown ad m c news hx hl (hnews ad rfl) h1 h63 hbytes hbase fun v' w' h2 h3 _ => h v' w' h2 h3
  | none =>
    obtain rfl := hA rfl
    have hn : news = [] := List.eq_nil_of_length_eq_zero (by simpa using hl)
    subst hn
    have hrun := run_append_nil_src (P := P) w base t o.type e i size ht hi v n xs hown c
    unfold Oper.wp
    simp [execOp, ho, resolve, invoke, builtin, hs, hx, hrun, Result.andThen]
    exact h v w (by simpa using hown) (World.grownBy.refl w _)
/-- At a step of a region that draws its order. -/
theorem step_append_src {P : Program} {w : World} {ops : Array Oper} {o : Oper} {a : Act} {K : Act → World → Prop} {Q : Exit → Act → World → Prop} {E : Prop} (hgd : o.guard = none) (s x : Operand) (t : TypeId)
    (ho : o.op = .call { callee := .builtin .append, args := #[s, x], argTypes := #[t, t] })
    (base : Nat) (e : TypeId) (i : TypeInfo) (z : Value) (size bytes : Nat) (ht : P.underlying t = some (.slice e)) (hi : P.info? e = some i) (hz : i.zero = some z)
    (hsize : i.size = size) (hby : i.bytes = bytes) (hzs : z.cells.size = size) (hsz : 0 < size)
    (v : Value) (n : Nat) (xs : List Value) (hs : a.eval s = v) (hown : w.ownsRow base e size v n xs)
    (A : Option Addr) (m c : Nat) (news : List Value) (hx : a.eval x = .slice A m c) (hA : A = none → m = 0) (hl : news.length = m * size) (hnews : ∀ ad, A = some ad → ∀ j u, news[j]? = some u → w.cell? (ad.add j) = some u) (h1 : ∀ u ∈ news, u.oneCell' = true)
    (h63 : n + m ≤ maxLen) (hbytes : (n + m) * bytes ≤ 140737488355328) (hbase : base ≤ w.heap.size)
    (h : ∀ v' w', w'.ownsRow base e size v' (n + m) (xs ++ news) → w.grownBy w' v.ownBlock → K (a.put o.dst v') w') :
    if Region.wanted o (yielded ops a.tmps) = true then Oper.wp P o a w K Q else E := by
  have hw : Region.wanted o (yielded ops a.tmps) = true := by simp [Region.wanted, hgd]
  rw [if_pos hw]
  exact wp_append_src s x t ho base e i z size bytes ht hi hz hsize hby hzs hsz v n xs hs hown A m c news hx hA hl hnews h1 h63 hbytes hbase h
/-- In a plain region. -/
theorem wpList_append_src {P : Program} {w : World} {ops : Array Oper} {rest : List Oper} {o : Oper} {a : Act} {Q : Exit → Act → World → Prop} (hgd : o.guard = none) (s x : Operand) (t : TypeId)
    (ho : o.op = .call { callee := .builtin .append, args := #[s, x], argTypes := #[t, t] })
    (base : Nat) (e : TypeId) (i : TypeInfo) (z : Value) (size bytes : Nat) (ht : P.underlying t = some (.slice e)) (hi : P.info? e = some i) (hz : i.zero = some z)
    (hsize : i.size = size) (hby : i.bytes = bytes) (hzs : z.cells.size = size) (hsz : 0 < size)
    (v : Value) (n : Nat) (xs : List Value) (hs : a.eval s = v) (hown : w.ownsRow base e size v n xs)
    (A : Option Addr) (m c : Nat) (news : List Value) (hx : a.eval x = .slice A m c) (hA : A = none → m = 0) (hl : news.length = m * size) (hnews : ∀ ad, A = some ad → ∀ j u, news[j]? = some u → w.cell? (ad.add j) = some u) (h1 : ∀ u ∈ news, u.oneCell' = true)
    (h63 : n + m ≤ maxLen) (hbytes : (n + m) * bytes ≤ 140737488355328) (hbase : base ≤ w.heap.size)
    (h : ∀ v' w', w'.ownsRow base e size v' (n + m) (xs ++ news) → w.grownBy w' v.ownBlock → wpList P ops Q rest (a.put o.dst v') w') : wpList P ops Q (o :: rest) a w :=
  wpList_plain hgd fun _ hK => wp_append_src s x t ho base e i z size bytes ht hi hz hsize hby hzs hsz v n xs hs hown A m c news hx hA hl hnews h1 h63 hbytes hbase fun v' w' h2 h3 => hK _ _ (h v' w' h2 h3)

/-- The cells of n settings. -/
def pairsOf (Z : Nat → Nat → Int) (n : Nat) : List Value := (List.range (n * 2)).map fun q => .int .i64 (Z (q / 2) (q % 2))
theorem run_copy_k {P : Program} (w : World) (dT sT ty elem : TypeId) (k g dLen dCap : Nat) (A : Option Addr) (sLen sCap : Nat) (cur : Array Value) (t : TypeId) (cs : List Value)
    (hu : P.underlying dT = some (.slice elem)) (hs : (P.info? elem).map (·.size) = some k)
    (hg : w.heap[g]? = some (.cells cur t (0, 0))) (hn : cs.length = Nat.min sLen dLen * k) (hA : A = none → sLen = 0)
    (hsrc : ∀ a, A = some a → ∀ j v, cs[j]? = some v → w.cell? (a.add j) = some v) (hfit : cs.length ≤ cur.size) (h1 : ∀ v ∈ cs, v.oneCell' = true) :
    (Builtin.copy_ #[dT, sT] ty #[.slice (some ⟨g, 0, none⟩) dLen dCap, .slice A sLen sCap]).run P w =
      .ok (goInt (Nat.min sLen dLen)) (w.setRow g (cs ++ cur.toList.drop cs.length).toArray) := by
  cases hq : P.info? elem with
  | none => simp [hq] at hs
  | some i =>
    have hi : i.size = k := by simpa [hq] using hs
    cases A with
    | none =>
      obtain rfl := hA rfl
      have hc : cs = [] := List.eq_nil_of_length_eq_zero (by rw [hn]; show Nat.min 0 dLen * k = 0; simp)
      subst hc
      simp [Builtin.copy_, run_underlying hu, Builtin.lenOf, Builtin.firstCells, sizeOf, typeInfo, hq, storeCells, setRow_self w g cur t (0, 0) hg]
    | some a =>
      have hl := run_loadCells_list (P := P) w a cs (hsrc a rfl)
      have hst := run_storeCells_at P g 0 t cs 0 cur w hg (by simpa using hfit) h1
      simp [Builtin.copy_, run_underlying hu, Builtin.lenOf, Builtin.firstCells, sizeOf, typeInfo, hq, hi, ← hn, hl, hst]
theorem wpList_copy_k {P : Program} {w : World} {ops : Array Oper} {rest : List Oper} {o : Oper} {a : Act} {Q : Exit → Act → World → Prop} (hgd : o.guard = none) (d s : Operand) (dT sT : TypeId)
    (ho : o.op = .call { callee := .builtin .copy, args := #[d, s], argTypes := #[dT, sT] }) (elem : TypeId) (k : Nat) (hu : P.underlying dT = some (.slice elem)) (hsz : (P.info? elem).map (·.size) = some k)
    (g dLen dCap : Nat) (A : Option Addr) (sLen sCap : Nat) (hd : a.eval d = .slice (some ⟨g, 0, none⟩) dLen dCap) (hs : a.eval s = .slice A sLen sCap)
    (cur : Array Value) (t : TypeId) (hg : w.heap[g]? = some (.cells cur t (0, 0))) (cs : List Value) (hn : cs.length = Nat.min sLen dLen * k) (hA : A = none → sLen = 0)
    (hsrc : ∀ ad, A = some ad → ∀ j v, cs[j]? = some v → w.cell? (ad.add j) = some v) (hfit : cs.length ≤ cur.size) (h1 : ∀ v ∈ cs, v.oneCell' = true)
    (h : ∀ w', w'.heap[g]? = some (.cells (cs ++ cur.toList.drop cs.length).toArray t (0, 0)) → w.grownBy w' (some g) → w'.heap.size = w.heap.size → wpList P ops Q rest (a.put o.dst (goInt (Nat.min sLen dLen))) w') : wpList P ops Q (o :: rest) a w := by
  refine wpList_plain hgd fun K hK => ?_
  have hrun := run_copy_k (P := P) w dT sT o.type elem k g dLen dCap A sLen sCap cur t cs hu hsz hg hn hA hsrc hfit h1
  unfold Oper.wp
  simp only [execOp, ho, resolve, invoke, builtin, Sem.run_bind, Sem.run_pure, Result.andThen_ok, List.map_toArray, List.map_cons, List.map_nil, hd, hs, hrun]
  exact hK _ _ (h _ (setRow_heap w g cur _ t _ hg) (setRow_grown w g _) (by simp))

theorem own_blk {w : World} {B g n : Nat} {e : TypeId} {sz : Nat} {xs : List Value} (h : w.ownsRow B e sz (.slice (some ⟨g, 0, none⟩) n n) n xs) : Blk w g e xs.toArray := by
  rcases h.2 with ⟨h', _⟩ | ⟨g', cap, cur, h', _, hh, _, _, hs, ht⟩
  · simp at h'
  · simp only [Value.slice.injEq, Option.some.injEq, Addr.mk.injEq, and_true, true_and] at h'
    obtain ⟨rfl, rfl⟩ := h'
    have : cur.toList = xs := by rw [← ht, List.take_of_length_le (by simp; omega)]
    rw [← this]
    simpa [Blk] using hh


theorem info5 : (Try.prog.info? 5).map (fun i => (i.zero, i.size, i.bytes)) = some (some (.int .u8 0), 1, 1) := by kernel_rfl
theorem bv_len (L : List Int) : (bv L).length = L.length := by simp [bv]
theorem bv_get (L : List Int) (i : Nat) (h : i < L.length) : (bv L)[i]? = some (.int .u8 (L.getD i 0)) := by
  rw [bv, List.getElem?_map, List.getElem?_eq_getElem h, List.getD_eq_getElem?_getD, List.getElem?_eq_getElem h]; rfl
theorem bv_one (L : List Int) : ∀ u ∈ bv L, u.oneCell' = true := fun u hu => by
  obtain ⟨x, _, rfl⟩ := List.mem_map.1 hu; rfl
theorem bv_app (L M : List Int) : bv L ++ bv M = bv (L ++ M) := by simp [bv]
theorem bs_own {w : World} {B : Nat} {v : Value} {n : Nat} {L : List Int} (h : w.ownsRow B 5 1 v n (bv L)) (hn : n = L.length) : BS w v L := by
  subst hn
  have hlt := h.lt
  rcases h.2 with ⟨rfl, he⟩ | ⟨g, cap, cur, rfl, hB, hh, hkc, hm, hs, ht⟩
  · have : L = [] := by cases L with
      | nil => rfl
      | cons a l => simp [bv] at he
    subst this
    exact ⟨_, _, rfl, Nat.le_refl _, Nat.zero_le _, fun h => absurd h (Nat.lt_irrefl _)⟩
  · refine ⟨_, _, rfl, hkc, hm, fun _ => ⟨g, 0, rfl, (hlt g rfl).2, fun i j hi hj => ?_⟩⟩
    obtain rfl : j = 0 := by omega
    have := h.cellAt i (by omega)
    rw [show (0 + (i * 1 + 0)) = i by omega, this]
    exact bv_get L i hi
theorem bs_src {w : World} {A : Option Addr} {n cap : Nat} {L : List Int} (h : BS w (.slice A n cap) L) :
    n = L.length ∧ (A = none → n = 0) ∧ ∀ ad, A = some ad → ∀ j u, (bv L)[j]? = some u → w.cell? (ad.add j) = some u := by
  obtain ⟨A', cap', he, h2, h3, hc⟩ := h
  cases he
  refine ⟨rfl, fun hA => ?_, fun ad hA j u hj => ?_⟩
  · rcases Nat.eq_zero_or_pos L.length with h | h
    · exact h
    · obtain ⟨b, off, hb, _⟩ := hc h
      rw [hA] at hb; cases hb
  · have hjl : j < L.length := by
      rcases Nat.lt_or_ge j L.length with h | h
      · exact h
      · rw [List.getElem?_eq_none (by rw [bv_len]; exact h)] at hj; cases hj
    obtain ⟨b, off, hb, hlt, hq⟩ := hc (by omega)
    rw [hA] at hb
    cases hb
    have := hq j 0 hjl (by omega)
    rw [bv_get L j hjl] at hj
    cases hj
    rw [add_plain]
    simpa using this
theorem bs_take {w : World} {A : Option Addr} {n cap m : Nat} {L : List Int} (h : BS w (.slice A n cap) L) (hm : m ≤ L.length) : BS w (.slice A m cap) (L.take m) := by
  obtain ⟨A', cap', he, h2, h3, hc⟩ := h
  cases he
  have e : (L.take m).length = m := by simp; omega
  refine ⟨_, _, by rw [e], by omega, h3, fun h0 => ?_⟩
  obtain ⟨b, off, hb, hlt, hq⟩ := hc (by omega)
  refine ⟨b, off, hb, hlt, fun i j hi hj => ?_⟩
  rw [hq i j (by omega) hj]
  show some (Value.int .u8 (L.getD i 0)) = some (Value.int .u8 ((L.take m).getD i 0))
  rw [List.getD_eq_getElem?_getD, List.getD_eq_getElem?_getD, List.getElem?_take_of_lt (by omega)]
/-- What Roomy holds when it has come to k. -/
def rl (L : List Int) (m : Int) (k : Nat) : List Int := (List.range (L.length + 80)).map fun i => if i < L.length then L.getD i 0 else if i < k then m else 0
theorem rl_len (L : List Int) (m : Int) (k : Nat) : (rl L m k).length = L.length + 80 := by simp [rl]
theorem rl_get (L : List Int) (m : Int) (k i : Nat) (h : i < L.length + 80) : (bv (rl L m k))[i]? = some (.int .u8 (if i < L.length then L.getD i 0 else if i < k then m else 0)) := by
  simp [bv, rl, h]
theorem rl_put (L : List Int) (m : Int) (k : Nat) (h1 : L.length ≤ k) (h2 : k < L.length + 80) : (bv (rl L m k)).set k (.int .u8 m) = bv (rl L m (k + 1)) := by
  apply List.ext_getElem?
  intro q
  rw [List.getElem?_set]
  simp only [bv_len, rl_len]
  by_cases hq : q < L.length + 80
  · rw [rl_get _ _ _ _ hq, rl_get _ _ _ _ hq]
    by_cases e1 : k = q
    · subst e1
      rw [if_pos rfl, if_pos hq, if_neg (by omega), if_pos (by omega)]
    · rw [if_neg e1]
      by_cases c : q < L.length
      · rw [if_pos c, if_pos c]
      · rw [if_neg c, if_neg c]
        by_cases c2 : q < k
        · rw [if_pos c2, if_pos (show q < k + 1 by omega)]
        · rw [if_neg c2, if_neg (show ¬ q < k + 1 by omega)]
  · rw [if_neg (by omega), List.getElem?_eq_none (by rw [bv_len, rl_len]; omega), List.getElem?_eq_none (by rw [bv_len, rl_len]; omega)]
theorem made_bytes (n : Nat) : (madeCells (Value.int .u8 0).cells (n * 1)).toList = bv (List.replicate n 0) := by
  apply List.ext_getElem?
  intro q
  by_cases hq : q < n
  · simp [madeCells, Value.cells, bv, hq, Nat.mod_one]
  · rw [List.getElem?_eq_none (by simp [madeCells]; omega), List.getElem?_eq_none (by simp [bv]; omega)]
theorem rl_start (L : List Int) (m : Int) : bv L ++ (bv (List.replicate (L.length + 80) 0)).drop L.length = bv (rl L m L.length) := by
  apply List.ext_getElem?
  intro q
  by_cases hq : q < L.length + 80
  · rw [rl_get _ _ _ _ hq]
    by_cases c : q < L.length
    · rw [if_pos c, List.getElem?_append_left (by rw [bv_len]; exact c), bv_get _ _ c]
    · rw [if_neg c, if_neg c, List.getElem?_append_right (by rw [bv_len]; omega), bv_len, List.getElem?_drop, bv_get _ _ (by simp; omega)]
      congr 2
      rw [List.getD_eq_getElem?_getD, List.getElem?_replicate]
      split <;> rfl
  · rw [List.getElem?_eq_none (by simp [bv]; omega), List.getElem?_eq_none (by rw [bv_len, rl_len]; omega)]
theorem bs_room {w : World} {g cap : Nat} {L : List Int} {m : Int} (h : Blk w g 5 (bv (rl L m (L.length + 80))).toArray) (hc : L.length ≤ cap) (hm : cap ≤ maxLen) : BS w (.slice (some ⟨g, 0, none⟩) L.length cap) L :=
  ⟨_, _, rfl, hc, hm, fun _ => ⟨g, 0, rfl, h.lt, fun i j hi hj => by
    obtain rfl : j = 0 := by omega
    have := h.cell i
    rw [show (0 + (i * 1 + 0)) = i by omega, this, List.getElem?_toArray, rl_get _ _ _ _ (by omega), if_pos hi]⟩⟩


end Go.Proofs.Ytdlmocjkhkopgaa.Sh
