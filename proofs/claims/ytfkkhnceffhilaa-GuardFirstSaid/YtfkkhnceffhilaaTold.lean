/- told. -/
import Derived.Test.YtfkkhnceffhilaaActs
import Derived.StillTailTactics
namespace Go.Proofs.Ytfkkhnceffhilaa
open Go.ChangeShapes Go.WideShapes Go.ChangeAt Go.RowKit
set_option linter.unusedVariables false
set_option linter.unusedSimpArgs false

theorem results_tc {P : Program} {w : World} {fn : Func} {p q : Tmp} {ty : TypeId} (h : fn.results = #[.tmp q, .cell p ty]) (tmps : Array Value) (u : Value) (a : Addr)
    (hp : tmps.getD p undef = .pointer (some a)) (hu : (loadVar ty a).run P w = .ok u w) :
    (results fn tmps).run P w = .ok (.tuple #[tmps.getD q undef, u]) w := by
  have hp' : tmps[p]?.getD undef = .pointer (some a) := by simpa using hp
  simp [results, h, hp', asAddr, hu]
theorem news_at {w : World} {b : Nat} {t : TypeId} {cs : Array Value} (h : Blk w b t cs) : ∀ j u, cs.toList[j]? = some u → w.cell? ((⟨b, 0, none⟩ : Addr).add j) = some u := fun j u hj => by
  have hadd : (⟨b, 0, none⟩ : Addr).add j = ⟨b, j, none⟩ := by unfold Addr.add; split <;> simp_all
  rw [hadd, h.cell, ← hj]
  simp
theorem info3 : (Try.prog.info? 3).map (fun i => (i.zero, i.size, i.bytes)) = some (some (.int .i64 0), 1, 8) := by kernel_rfl
theorem own_step {wr wx w1 : World} {B k q : Nat} {S : List Nat} {r v1 : Value} {M K : List Int} (hO : Own wr B S r M) (hx : Kept (fun _ => False) wr wx) (hS : ∀ s ∈ S, s < wx.heap.size)
    (hq : M.length = q) (hown1 : w1.ownsRow B 3 1 v1 (q + k) (iv M ++ iv K)) (hk : K.length = k) (hg : wx.grownBy w1 r.ownBlock) (hat : v1.ownBlock = r.ownBlock ∨ v1.ownBlock = some wx.heap.size) :
    Own w1 B S v1 (M ++ K) ∧ Kept (Far B S) wr w1 := by
  subst hk hq
  refine ⟨⟨?_, fun k hk hs => ?_⟩, ?_⟩
  · rw [iv_app] at hown1
    rwa [← List.length_append] at hown1
  · rcases hat with h | h
    · exact hO.far k (by rw [← h]; exact hk) hs
    · rw [h] at hk; cases hk
      exact Nat.lt_irrefl _ (hS _ hs)
  · exact Kept.grown (hx.mono fun _ _ h => h.elim) hg fun k hk => .inr ⟨(hO.row.lt k hk).1, hO.far k hk⟩
/-- The loop's relation. -/
def TIn (W : World) (B : Nat) (S : List Nat) (N : List Int) (L : List Act) (r5 i : Nat) (P : List Int) (r : Value) (wr : World) : Prop :=
  Own wr B (r5 :: S) r (N ++ P) ∧ Kept (Far B S) W wr ∧ Blk wr r5 35 #[.int .i64 0, .int .i64 0, .int .i64 0] ∧ (∀ ns h, Told (L.drop i) ns h → Told L (P ++ ns) h) ∧ P.length ≤ 3 * i ∧ i ≤ L.length
/-- What told answers. -/
def TEnd (W : World) (B : Nat) (S : List Nat) (N : List Int) (L : List Act) (e : Ending) (w' : World) : Prop :=
  ∃ ns h r', e = .returned (.tuple #[r', endV h]) ∧ Told L ns h ∧ Own w' B S r' (N ++ ns) ∧ Kept (Far B S) W w'
theorem tin_step {W : World} {B : Nat} {S : List Nat} {N : List Int} {L : List Act} {r5 i : Nat} {P : List Int} {r v1 : Value} {wr w1 : World} (h : TIn W B S N L r5 i P r wr) (j : Nat) (K : List Int)
    (hstep : ∀ ns h, Told (L.drop j) ns h → Told (L.drop i) (K ++ ns) h) (ho : Own w1 B (r5 :: S) v1 (N ++ P ++ K)) (hk : Kept (Far B (r5 :: S)) wr w1) (hK : P.length + K.length ≤ 3 * j) (hj : j ≤ L.length) :
    TIn W B S N L r5 j (P ++ K) v1 w1 := by
  obtain ⟨hO, hK', hb5, hT, hPl, hiL⟩ := h
  refine ⟨by rwa [← List.append_assoc], hK'.trans (hk.far fun s hs => List.mem_cons_of_mem _ hs), hk.blk hb5 (fun hx => hx.2 (by simp)), fun ns h ht => ?_, by rw [List.length_append]; exact hK, hj⟩
  rw [List.append_assoc]
  exact hT _ _ (hstep ns h ht)
theorem tin_end {W : World} {B : Nat} {S : List Nat} {N : List Int} {L : List Act} {r5 i : Nat} {P : List Int} {r v1 : Value} {wr w1 : World} (h : TIn W B S N L r5 i P r wr) (K : List Int) (hh : How) (ht : Told (L.drop i) K hh)
    (ho : Own w1 B (r5 :: S) v1 (N ++ P ++ K)) (hk : Kept (Far B S) wr w1) : TEnd W B S N L (.returned (.tuple #[v1, endV hh])) w1 := by
  obtain ⟨hO, hK', hb5, hT, hPl, hiL⟩ := h
  exact ⟨P ++ K, hh, v1, rfl, hT _ _ ht, by rw [← List.append_assoc]; exact ho.fewer fun s hs => List.mem_cons_of_mem _ hs, hK'.trans hk⟩
theorem tin_skip {W : World} {B : Nat} {S : List Nat} {N : List Int} {L : List Act} {r5 i : Nat} {P : List Int} {r : Value} {wr : World} (h : TIn W B S N L r5 i P r wr) (o : Obj)
    (hstep : ∀ ns h, Told (L.drop (i + 1)) ns h → Told (L.drop i) ns h) (hj : i + 1 ≤ L.length) : TIn W B S N L r5 (i + 1) P r (wr.alloc o) := by
  have hk : Kept (fun _ => False) wr (wr.alloc o) := (Kept.refl _ wr).alloc o
  have := tin_step h (i + 1) [] hstep (by rw [List.append_nil]; exact h.1.kept hk (fun _ _ h => h)) (hk.mono fun _ _ h => h.elim) (by have := h.2.2.2.2.1; simp; omega) hj
  rwa [List.append_nil] at this
theorem tin_ret {W : World} {B : Nat} {S : List Nat} {N : List Int} {L : List Act} {r5 i : Nat} {P : List Int} {r : Value} {wr w1 : World} (h : TIn W B S N L r5 i P r wr) (hh : How) (ht : Told (L.drop i) [] hh)
    (hk : Kept (fun b => b = r5) wr w1) (h5 : Far B S r5) : TEnd W B S N L (.returned (.tuple #[r, endV hh])) w1 :=
  tin_end h [] hh ht (by rw [List.append_nil]; exact h.1.kept hk (fun k hk hx => h.1.far k hk (by rw [hx]; simp))) (hk.mono fun k _ hx => by rw [hx]; exact h5)
theorem three (X : World) (r5 : Nat) (a b c : Value) : Kept (fun b => b = r5) X (((X.setCell ⟨r5, 0, none⟩ a).setCell ⟨r5, 1, none⟩ b).setCell ⟨r5, 2, none⟩ c) :=
  (((Kept.refl (fun b => b = r5) X).setCell (.inr rfl) _).setCell (.inr rfl) _).setCell (.inr rfl) _
set_option maxHeartbeats 8000000 in
set_option maxRecDepth 100000 in
theorem told_any (W0 : World) (B : Nat) (hW0 : W0.heap.size ≤ B) : ∀ (m : Nat) (L : List Act) (A : Option Addr) (cap : Nat) (S : List Nat) (W : World) (r : Value) (N : List Int), L.length < m → m ≤ 100 → AS W0 (.slice A L.length cap) L → AOk L → Below B W0 W →
    Own W B S r N → (∀ s ∈ S, s < W.heap.size) → N.length + 3 * L.length ≤ 10000 → B ≤ W.heap.size → Calls Try.prog 23 #[.slice A L.length cap, r] W (TEnd W B S N L) := by
  intro m
  induction m with
  | zero => exact fun L A cap S W r N h => absurd h (Nat.not_lt_zero _)
  | succ m ih =>
    intro L A cap S W r N hLm hm hA hok hB hO hS hN hBW
    have HIH := Lib.hid ih
    have HA := Lib.hid hA
    have HOK := Lib.hid hok
    have HB := Lib.hid hB
    have HS := Lib.hid hS
    have hrl : W.heap.size ∉ S := fun h => Nat.lt_irrefl _ (hS _ h)
    have HF5 := Lib.hid (⟨hBW, hrl⟩ : Far B S W.heap.size)
    have hT0 : TIn W B S N L W.heap.size 0 [] r (W.alloc (.cells #[.int .i64 0, .int .i64 0, .int .i64 0] 35)) :=
      ⟨by rw [List.append_nil]; exact hO.alloc _ (Nat.le_refl _), (Kept.refl _ W).alloc _, Blk.new _ _ _, fun ns h ht => ht, Nat.zero_le _, Nat.zero_le _⟩
    have HT0 := Lib.hid hT0
    obtain ⟨i0, hi, hz0, hz1, hz2⟩ := info_parts info3
    obtain ⟨Ln, hLn⟩ : ∃ Ln, L.length = Ln := ⟨_, rfl⟩
    have HLn := Lib.hid hLn
    rw [hLn] at hLm hN ⊢
    clear ih hA hok hB hO hS hT0 hLn
    go_enter Try.func23, Try.ntmps23
    go_wp2_with fail
    go_loopw [1, 6] (fun u1 u6 wr => ∃ (i : Nat) (P : List Int), u6 = .int .i64 i ∧ Hid (TIn W B S N L W.heap.size i P u1 wr)) (fun _ u6 _ => Ln - (intOf u6).toNat)
    case atStart => exact ⟨0, [], rfl, HT0⟩
    case round =>
      obtain ⟨i, P, rfl, HT⟩ := hrel
      obtain ⟨hO, hK, hb5, hT, hPl, hiL⟩ := id HT.out
      rw [HLn.out] at hiL
      have hws := hK.size
      by_cases hlt : i < Ln
      · have hAt := (HLn.out ▸ HA.out : AS W0 (.slice A Ln cap) L)
        obtain ⟨b, off, rfl, hbl, hc⟩ := (show ∃ b off, A = some ⟨b, off, none⟩ ∧ b < W0.heap.size ∧ ∀ j, j < 5 → W0.cell? ⟨b, off + (i * 5 + j), none⟩ = some (actC (L.getD i Act.zero) j) from HA.out.at (by rw [HLn.out]; exact hlt))
        have hBr : Below B W0 wr := HB.out.trans (hK.low hBW)
        obtain ⟨⟨k, n, a, d, ok⟩, hact⟩ : ∃ x, L.getD i Act.zero = x := ⟨_, rfl⟩
        rw [hact] at hc
        have c0 : wr.cell? ⟨b, off + i * 5, none⟩ = some (.int .i64 k) := by rw [hBr.cell (p := ⟨b, _, none⟩) (by show b < B; omega)]; exact hc 0 (by omega)
        have c1 : wr.cell? ⟨b, off + i * 5 + 1, none⟩ = some (.int .i64 n) := by rw [hBr.cell (p := ⟨b, _, none⟩) (by show b < B; omega)]; exact hc 1 (by omega)
        have c2 : wr.cell? ⟨b, off + i * 5 + 2, none⟩ = some (.int .i64 a) := by rw [hBr.cell (p := ⟨b, _, none⟩) (by show b < B; omega)]; exact hc 2 (by omega)
        have c3 : wr.cell? ⟨b, off + i * 5 + 3, none⟩ = some (.int .i64 d) := by rw [hBr.cell (p := ⟨b, _, none⟩) (by show b < B; omega)]; exact hc 3 (by omega)
        have c4 : wr.cell? ⟨b, off + i * 5 + 4, none⟩ = some (.bool ok) := by rw [hBr.cell (p := ⟨b, _, none⟩) (by show b < B; omega)]; exact hc 4 (by omega)
        have hdrop : L.drop i = ⟨k, n, a, d, ok⟩ :: L.drop (i + 1) := by
          have h := HLn.out
          rw [List.drop_eq_getElem_cons (by omega)]
          congr 1
          rw [← hact, List.getD_eq_getElem?_getD, List.getElem?_eq_getElem (by omega)]; rfl
        have HD := Lib.hid hdrop
        have HACT := Lib.hid hact
        have hk0 : 0 ≤ (i : Int) := by omega
        have hk1 : (i : Int) < (Ln : Int) := by omega
        have HO := Lib.hid hO
        have HB5 := Lib.hid hb5
        have HSr := Lib.hid (lt_app (l := [W.heap.size]) (S := S) (fun s hs => by have := hb5.lt; simp at hs; omega) (fun s hs => by have := HS.out s hs; omega) : ∀ s ∈ [W.heap.size] ++ S, s < wr.heap.size)
        have hBw : B ≤ wr.heap.size := by omega
        clear hc hO hK hb5 hT hact hdrop hAt
        obtain ⟨A1, c1', rfl⟩ := HO.out.form
        obtain ⟨q, hq⟩ : ∃ q, (N ++ P).length = q := ⟨_, rfl⟩
        have hql : q ≤ 10000 := by rw [← hq, List.length_append]; omega
        have hrow := HO.out.row
        rw [hq] at hrow ⊢
        rw [hq] at HO HT
        have HQ := Lib.hid hq
        have HROW := Lib.hid hrow
        clear hq hrow
        by_cases h1 : k = 1
        · subst h1
          go_wp2_with (at_builtin; refine wpList_append_own_at _ rfl (.tmp 24) (.tmp 27) 33 rfl B 3 i0 (.int .i64 0) 1 8 Try.underlying33 hi hz0 hz1 hz2 rfl (by decide) _ q (iv (N ++ P)) rfl ((HROW.out.alloc _).alloc _) ⟨wr.heap.size + 1, 0, none⟩ 1 1 [.int .i64 n] rfl rfl (news_at (Blk.new_at (by simp only [World.size_alloc]))) (by simp [Value.oneCell']) (by unfold maxLen; omega) (by omega) (by go_size) ?_; intro v1 w1 hown1 hg1 hnil hat; have HOS := Lib.hid (own_step (K := [n]) HO.out (((Kept.refl _ wr).alloc _).alloc _) (by intro s hs; have := HSr.out s hs; simp only [World.size_alloc]; omega) HQ.out hown1 rfl hg1 hat); have hs1 := hg1.size; clear hown1 hg1 hnil hat)
          go_roundw
          case rel => exact ⟨i + 1, P ++ [n], by go_num, Lib.hid (tin_step HT.out (i + 1) [n] (fun ns h ht => by rw [HD.out]; exact Told.note rfl ht) HOS.out.1 HOS.out.2 (by simp; omega) (by rw [HLn.out]; omega))⟩
          case measure => simp [intOf]; omega
        by_cases h2 : k = 2
        · subst h2
          go_upto_region 9 with fail
          refine wp_forget (fun X => Hid (Kept (fun _ => False) wr X) ∧ Hid (Blk X wr.heap.size 55 #[.int .i64 2, .int .i64 n, .int .i64 a, .int .i64 d, .bool ok])) ⟨Lib.hid ((Kept.refl _ wr).alloc _), Lib.hid (Blk.new _ _ _)⟩ ?_
          rintro X ⟨HKX, HBX⟩
          have HX5 := Lib.hid (HKX.out.blk HB5.out (fun h => h))
          have hl7 := HBX.out.lt
          have hl5 := HX5.out.lt
          have hn5 : W.heap.size ≠ wr.heap.size := by have := HB5.out.lt; omega
          generalize hg7 : wr.heap.size = b7 at *
          have hG7 := Lib.hid hg7
          clear hg7
          have x1 : X.cell? ⟨b7, 1, none⟩ = some (.int .i64 n) := HBX.out.cell 1
          have x2 : X.cell? ⟨b7, 2, none⟩ = some (.int .i64 a) := HBX.out.cell 2
          have r0 : X.cell? ⟨W.heap.size, 0, none⟩ = some (.int .i64 0) := HX5.out.cell 0
          have r1 : X.cell? ⟨W.heap.size, 1, none⟩ = some (.int .i64 0) := HX5.out.cell 1
          have r2 : X.cell? ⟨W.heap.size, 2, none⟩ = some (.int .i64 0) := HX5.out.cell 2
          have z0 : X.frozen? ⟨W.heap.size, 0, none⟩ = false := HX5.out.frozen 0
          have z1 : X.frozen? ⟨W.heap.size, 1, none⟩ = false := HX5.out.frozen 1
          have z2 : X.frozen? ⟨W.heap.size, 2, none⟩ = false := HX5.out.frozen 2
          clear c0 c1 c2 c3 c4
          go_region_held3 (fun w' => w'.cell? ⟨b7, 1, none⟩ = some (.int .i64 n) ∧ w'.cell? ⟨b7, 2, none⟩ = some (.int .i64 a)) (go_keep) (fail)
          all_goals go_wp2_with fail
          refine bodyPost_ret (results_tc rfl _ _ _ rfl (load35 (((HX5.out.put 0 _).put 1 _).put 2 _).drew)) rfl ?_
          exact tin_ret HT.out (.fault n a) (by rw [HD.out]; exact Told.raise rfl) ((HKX.out.mono (fun _ _ h => h.elim)).trans (three X W.heap.size _ _ _).drew) HF5.out
        by_cases h3 : k = 3
        · subst h3
          cases ok with
          | true =>
            go_wp2_with fail
            go_roundw
            case rel => exact ⟨i + 1, P, by go_num, Lib.hid (tin_skip HT.out _ (fun ns h ht => by rw [HD.out]; exact Told.must rfl rfl ht) (by rw [HLn.out]; omega))⟩
            case measure => simp [intOf]; omega
          | false =>
            go_upto_region 12 with fail
            refine wp_forget (fun X => Hid (Kept (fun _ => False) wr X) ∧ Hid (Blk X wr.heap.size 55 #[.int .i64 3, .int .i64 n, .int .i64 a, .int .i64 d, .bool false])) ⟨Lib.hid ((Kept.refl _ wr).alloc _), Lib.hid (Blk.new _ _ _)⟩ ?_
            rintro X ⟨HKX, HBX⟩
            have HX5 := Lib.hid (HKX.out.blk HB5.out (fun h => h))
            have hl7 := HBX.out.lt
            have hl5 := HX5.out.lt
            have hn5 : W.heap.size ≠ wr.heap.size := by have := HB5.out.lt; omega
            generalize hg7 : wr.heap.size = b7 at *
            have hG7 := Lib.hid hg7
            clear hg7
            have x1 : X.cell? ⟨b7, 1, none⟩ = some (.int .i64 n) := HBX.out.cell 1
            have x2 : X.cell? ⟨b7, 2, none⟩ = some (.int .i64 a) := HBX.out.cell 2
            have r0 : X.cell? ⟨W.heap.size, 0, none⟩ = some (.int .i64 0) := HX5.out.cell 0
            have r1 : X.cell? ⟨W.heap.size, 1, none⟩ = some (.int .i64 0) := HX5.out.cell 1
            have r2 : X.cell? ⟨W.heap.size, 2, none⟩ = some (.int .i64 0) := HX5.out.cell 2
            have z0 : X.frozen? ⟨W.heap.size, 0, none⟩ = false := HX5.out.frozen 0
            have z1 : X.frozen? ⟨W.heap.size, 1, none⟩ = false := HX5.out.frozen 1
            have z2 : X.frozen? ⟨W.heap.size, 2, none⟩ = false := HX5.out.frozen 2
            clear c0 c1 c2 c3 c4
            go_region_held3 (fun w' => w'.cell? ⟨b7, 1, none⟩ = some (.int .i64 n) ∧ w'.cell? ⟨b7, 2, none⟩ = some (.int .i64 a)) (go_keep) (fail)
            all_goals go_wp2_with fail
            refine bodyPost_ret (results_tc rfl _ _ _ rfl (load35 (((HX5.out.put 0 _).put 1 _).put 2 _).drew)) rfl ?_
            exact tin_ret HT.out (.fault n a) (by rw [HD.out]; exact Told.mustnt rfl rfl) ((HKX.out.mono (fun _ _ h => h.elim)).trans (three X W.heap.size _ _ _).drew) HF5.out
        by_cases h4 : k = 4
        · subst h4
          have r0 : wr.cell? ⟨W.heap.size, 0, none⟩ = some (.int .i64 0) := HB5.out.cell 0
          have r1 : wr.cell? ⟨W.heap.size, 1, none⟩ = some (.int .i64 0) := HB5.out.cell 1
          have r2 : wr.cell? ⟨W.heap.size, 2, none⟩ = some (.int .i64 0) := HB5.out.cell 2
          have z0 : wr.frozen? ⟨W.heap.size, 0, none⟩ = false := HB5.out.frozen 0
          have z1 : wr.frozen? ⟨W.heap.size, 1, none⟩ = false := HB5.out.frozen 1
          have z2 : wr.frozen? ⟨W.heap.size, 2, none⟩ = false := HB5.out.frozen 2
          have hl5 := HB5.out.lt
          go_wp2_with fail
          refine bodyPost_ret (results_tc rfl _ _ _ rfl (load35 ((((HB5.out.put 0 _).put 1 _).put 2 _).alloc _))) rfl ?_
          exact tin_ret HT.out .other (by rw [HD.out]; exact Told.div rfl) ((three wr W.heap.size _ _ _).alloc _) HF5.out
        by_cases h5 : k = 5
        · subst h5
          have hact5 : I64 d := by
            have h1 := HLn.out
            have hmem : (⟨5, n, a, d, ok⟩ : Act) ∈ L := by
              rw [← HACT.out, List.getD_eq_getElem?_getD, List.getElem?_eq_getElem (by omega)]
              exact List.getElem_mem _
            exact (HOK.out _ hmem).2.2.2
          obtain ⟨hd1, hd2⟩ := hact5
          have hdl : (L.drop (i + 1)).length = Ln - i - 1 := by rw [List.length_drop, HLn.out]; omega
          have hkl := kk_le ⟨5, n, a, d, ok⟩ (L.drop (i + 1))
          have hkw := kk_wit ⟨5, n, a, d, ok⟩ (L.drop (i + 1))
          obtain ⟨K, hK⟩ : ∃ K, kk ⟨5, n, a, d, ok⟩ (L.drop (i + 1)) = K := ⟨_, rfl⟩
          rw [hK, hdl] at hkw
          rw [hK, hdl] at hkl
          have hkw2 : wit d 0 ((Ln : Int) - (i : Int) - 1) = (K : Int) := by rw [← hkw]; congr 1; omega
          have HKW := Lib.hid hkw2
          have HKK := Lib.hid hK
          have hsA : AS W0 (.slice (some ⟨b, off, none⟩) Ln cap) L := by have := HA.out; rwa [HLn.out] at this
          obtain ⟨A', c', hsl, hsub⟩ := run_mid hsA (i + 1) K (by rw [HLn.out]; omega) ((i : Int) + 1) ((i : Int) + 1 + (K : Int)) (by omega) (by omega)
          obtain ⟨sub, hsb⟩ : ∃ sub, (L.drop (i + 1)).take K = sub := ⟨_, rfl⟩
          rw [hsb] at hsub
          have hsbl : sub.length = K := by rw [← hsb, List.length_take, hdl]; omega
          have HSB := Lib.hid hsb
          have HSUB := Lib.hid hsub
          have HSL := Lib.hid hsbl
          have hsok : AOk sub := fun x hx => HOK.out x (by rw [← hsb] at hx; exact List.mem_of_mem_drop (List.mem_of_mem_take hx))
          have HSOK := Lib.hid hsok
          have hKn : K ≤ Ln - i - 1 := hkl
          clear hkl hkw hkw2 hK hsA hsub hsb hsbl hsok hdl
          go_upto_region 18 with (go_at_call 34; refine (wit_any _ _ _ _ (by decide) (by omega) (by omega) (by omega) (by omega)).mono ?_; rintro e w1 ⟨rfl, rfl⟩; rw [HKW.out])
          refine wp_forget (fun X => Hid (Kept (fun _ => False) wr X) ∧ wr.heap.size + 1 + 1 = X.heap.size ∧ Hid (Blk X (wr.heap.size + 1) 35 #[.int .i64 0, .int .i64 0, .int .i64 0])) ⟨Lib.hid (((Kept.refl _ wr).alloc _).alloc _), by simp only [World.size_alloc], Lib.hid (Blk.new_at (by simp only [World.size_alloc]))⟩ ?_
          rintro X ⟨HKX, hXs, HB9⟩
          have HX5 := Lib.hid (HKX.out.blk HB5.out (fun h => h))
          have hOX : Own X B ((wr.heap.size + 1) :: W.heap.size :: S) (.slice A1 q c1') (N ++ P) := (HO.out.kept HKX.out (fun _ _ h => h)) |> fun h => ⟨h.row, fun k hk => by
            have h1 := h.far k hk
            have h2 := (HO.out.row.lt k hk).2
            simp only [List.mem_cons, not_or] at h1 ⊢
            exact ⟨by omega, h1⟩⟩
          have hSX : ∀ s ∈ (wr.heap.size + 1) :: W.heap.size :: S, s < X.heap.size := fun s hs => by
            rcases List.mem_cons.1 hs with rfl | hs
            · omega
            · have := HSr.out s hs; omega
          have hIH := HIH.out sub A' c' ((wr.heap.size + 1) :: W.heap.size :: S) X (.slice A1 q c1') (N ++ P) (by rw [HSL.out]; omega) (by omega) (by rw [HSL.out]; exact HSUB.out) HSOK.out (hBr.trans ((HKX.out.below (fun _ _ h => h.elim) (Nat.le_refl _)).mono hBw)) hOX hSX (by rw [HSL.out, List.length_append]; omega) (by omega)
          rw [HSL.out] at hIH
          have HIH' := Lib.hid hIH
          have hn59 : W.heap.size ≠ wr.heap.size + 1 := by have := HB5.out.lt; omega
          clear hOX hSX hIH c0 c1 c2 c3 c4
          go_wp2_with fail
          refine HIH'.out.mono ?_
          rintro e w2 ⟨ns, h, r', rfl, ht, hO2, hK2⟩
          obtain ⟨A2, c2', rfl⟩ := hO2.form
          have hb9 := hK2.blk HB9.out (fun hx => hx.2 (by simp))
          have hb5 := hK2.blk HX5.out (fun hx => hx.2 (by simp))
          have H9 := Lib.hid hb9
          have H5 := Lib.hid hb5
          have HT2 := Lib.hid ht
          have HO2 := Lib.hid hO2
          have hKw : Kept (Far B (W.heap.size :: S)) wr w2 := (HKX.out.mono (fun _ _ h => h.elim)).then hK2 (fun k hk hx => far_sub (fun s hs => List.mem_cons_of_mem _ hs) hx)
          have HKw := Lib.hid hKw
          have hw2 := hK2.size
          have hl9 := hb9.lt
          have hl5 := hb5.lt
          have e0 : w2.cell? ⟨wr.heap.size + 1, 0, none⟩ = some (.int .i64 0) := hb9.cell 0
          have e1 : w2.cell? ⟨wr.heap.size + 1, 1, none⟩ = some (.int .i64 0) := hb9.cell 1
          have e2 : w2.cell? ⟨wr.heap.size + 1, 2, none⟩ = some (.int .i64 0) := hb9.cell 2
          have f0 : w2.frozen? ⟨wr.heap.size + 1, 0, none⟩ = false := hb9.frozen 0
          have f1 : w2.frozen? ⟨wr.heap.size + 1, 1, none⟩ = false := hb9.frozen 1
          have f2 : w2.frozen? ⟨wr.heap.size + 1, 2, none⟩ = false := hb9.frozen 2
          obtain ⟨q2, hq2⟩ : ∃ q2, (N ++ P ++ ns).length = q2 := ⟨_, rfl⟩
          have hq2l : q2 ≤ 10000 := by
            have h1 := told_len ht
            rw [HSL.out] at h1
            rw [← hq2, List.length_append, List.length_append]; omega
          rw [hq2] at HO2 ⊢
          have HQ2 := Lib.hid hq2
          clear hb9 hb5 ht hO2 hK2 hKw hq2 hBr
          obtain ⟨x, hx⟩ : ∃ x, (num3 h).1 = x := ⟨_, rfl⟩
          obtain ⟨y, hy⟩ : ∃ y, (num3 h).2.1 = y := ⟨_, rfl⟩
          obtain ⟨z, hz⟩ : ∃ z, (num3 h).2.2 = z := ⟨_, rfl⟩
          have hE : endV h = .agg #[.int .i64 x, .int .i64 y, .int .i64 z] := by unfold endV; rw [hx, hy, hz]
          rw [hE]
          have HN3 := Lib.hid (⟨hx, hy, hz⟩ : (num3 h).1 = x ∧ (num3 h).2.1 = y ∧ (num3 h).2.2 = z)
          have HEV := Lib.hid hE
          clear hx hy hz hE
          go_upto_region 19 with fail
          refine wp_forget (fun X3 => Hid (Kept (fun b => b = wr.heap.size + 1) w2 X3) ∧ w2.heap.size = X3.heap.size ∧ Hid (Blk X3 (wr.heap.size + 1) 35 #[.int .i64 x, .int .i64 y, .int .i64 z])) ⟨Lib.hid (three w2 (wr.heap.size + 1) _ _ _), by simp [World.setCell], Lib.hid (((H9.out.put 0 _).put 1 _).put 2 _)⟩ ?_
          rintro X3 ⟨HK3, hX3s, HB3⟩
          clear e0 e1 e2 f0 f1 f2
          have e0 : X3.cell? ⟨wr.heap.size + 1, 0, none⟩ = some (.int .i64 x) := HB3.out.cell 0
          have e1 : X3.cell? ⟨wr.heap.size + 1, 1, none⟩ = some (.int .i64 y) := HB3.out.cell 1
          have e2 : X3.cell? ⟨wr.heap.size + 1, 2, none⟩ = some (.int .i64 z) := HB3.out.cell 2
          have hO3 : Own X3 B (W.heap.size :: S) (.slice A2 q2 c2') (N ++ P ++ ns) := (HO2.out.kept HK3.out (fun k hk hx => HO2.out.far k hk (by rw [hx]; simp))).fewer fun s hs => List.mem_cons_of_mem _ hs
          have HO3 := Lib.hid hO3
          have h5' := HK3.out.blk H5.out (fun h => hn59 h)
          have H5' := Lib.hid h5'
          have hK3w : Kept (Far B (W.heap.size :: S)) wr X3 := HKw.out.then HK3.out (fun k hk hx => by omega)
          have HK3w := Lib.hid hK3w
          have hr3 := hO3.row
          rw [HQ2.out] at hr3
          have HR3 := Lib.hid hr3
          have hl53 := h5'.lt
          have hl93 := HB3.out.lt
          clear hO3 h5' hK3w hr3
          by_cases hx2 : x = 2
          · have hh : h = .other := by
              have := HN3.out.1
              cases h with
              | fine => simp [num3] at this; omega
              | fault c a' => simp [num3] at this; omega
              | other => rfl
            subst hh
            subst hx2
            have r0 : X3.cell? ⟨W.heap.size, 0, none⟩ = some (.int .i64 0) := H5'.out.cell 0
            have r1 : X3.cell? ⟨W.heap.size, 1, none⟩ = some (.int .i64 0) := H5'.out.cell 1
            have r2 : X3.cell? ⟨W.heap.size, 2, none⟩ = some (.int .i64 0) := H5'.out.cell 2
            have z0 : X3.frozen? ⟨W.heap.size, 0, none⟩ = false := H5'.out.frozen 0
            have z1 : X3.frozen? ⟨W.heap.size, 1, none⟩ = false := H5'.out.frozen 1
            have z2 : X3.frozen? ⟨W.heap.size, 2, none⟩ = false := H5'.out.frozen 2
            go_upto_region 20 with fail
            generalize hb9 : wr.heap.size + 1 = b9 at *
            have HB9' := Lib.hid hb9
            clear hb9
            go_region_held3 (fun w' => w'.cell? ⟨b9, 0, none⟩ = some (.int .i64 2) ∧ w'.cell? ⟨b9, 1, none⟩ = some (.int .i64 y) ∧ w'.cell? ⟨b9, 2, none⟩ = some (.int .i64 z)) (go_keep) (fail)
            all_goals go_wp2_with fail
            refine bodyPost_ret (results_tc rfl _ _ _ rfl (load35 (((H5'.out.put 0 _).put 1 _).put 2 _).drew)) rfl ?_
            have hend := tin_end (w1 := (((X3.setCell ⟨W.heap.size, 0, none⟩ (.int .i64 2)).setCell ⟨W.heap.size, 1, none⟩ (.int .i64 y)).setCell ⟨W.heap.size, 2, none⟩ (.int .i64 z)).drew) HT.out ns .other (by rw [HD.out]; exact Told.stop rfl (by rw [HKK.out, HSB.out]; exact HT2.out)) (HO3.out.kept (three X3 W.heap.size _ _ _).drew (fun k hk hx => HO3.out.far k hk (by rw [hx]; simp)))
              ((HK3w.out.far (fun s hs => List.mem_cons_of_mem _ hs)).then (three X3 W.heap.size _ _ _).drew (fun k _ hx => by rw [hx]; exact HF5.out))
            rw [HEV.out] at hend
            exact hend
          · have g2 : (x == 2) = false := by simpa using hx2
            have HNO : Hid (h ≠ .other) := fun e => hx2 (by have := HN3.out.1; rw [e] at this; simpa [num3] using this.symm)
            clear hx2
            go_wp2_with (at_builtin; refine wpList_append_own_at _ rfl (.tmp 82) (.tmp 91) 33 rfl B 3 i0 (.int .i64 0) 1 8 Try.underlying33 hi hz0 hz1 hz2 rfl (by decide) _ q2 (iv (N ++ P ++ ns)) rfl (HR3.out.alloc _) ⟨X3.heap.size, 0, none⟩ 3 3 [.int .i64 x, .int .i64 y, .int .i64 z] rfl rfl (news_at (Blk.new_at (by simp only [World.size_alloc]))) (by simp [Value.oneCell']) (by unfold maxLen; omega) (by omega) (by go_size) ?_; intro v1 w1 hown1 hg1 hnil hat; have HOS := Lib.hid (own_step (K := [x, y, z]) HO3.out ((Kept.refl _ X3).alloc _) (by intro s hs; have h1 := HSr.out s hs; simp only [World.size_alloc]; omega) HQ2.out hown1 rfl hg1 hat); have hs1 := hg1.size; clear hown1 hg1 hnil hat)
            go_roundw
            case rel =>
              refine ⟨i + K + 1, P ++ (ns ++ [x, y, z]), by go_num, Lib.hid (tin_step HT.out (i + K + 1) (ns ++ [x, y, z]) (fun ms h2 ht2 => ?_) (by rw [← List.append_assoc]; exact HOS.out.1) (HK3w.out.trans HOS.out.2) ?_ (by rw [HLn.out]; omega))⟩
              · rw [HD.out, ← HN3.out.1, ← HN3.out.2.1, ← HN3.out.2.2]
                refine Told.call rfl (by rw [HKK.out, HSB.out]; exact HT2.out) HNO.out ?_
                rw [HKK.out, List.drop_drop, show i + 1 + K = i + K + 1 by omega]
                exact ht2
              · have h1 := told_len HT2.out
                rw [HSL.out] at h1
                simp
                omega
            case measure => simp [intOf]; omega
        · have g1 : (k == 1) = false := by simpa using h1
          have g2 : (k == 2) = false := by simpa using h2
          have g3 : (k == 3) = false := by simpa using h3
          have g4 : (k == 4) = false := by simpa using h4
          have g5 : (k == 5) = false := by simpa using h5
          have HNE := Lib.hid (⟨h1, h2, h3, h4, h5⟩ : k ≠ 1 ∧ k ≠ 2 ∧ k ≠ 3 ∧ k ≠ 4 ∧ k ≠ 5)
          clear h1 h2 h3 h4 h5
          go_wp2_with fail
          go_roundw
          case rel => exact ⟨i + 1, P, by go_num, Lib.hid (tin_skip HT.out _ (fun ns h ht => by rw [HD.out]; exact Told.skip HNE.out.1 HNE.out.2.1 HNE.out.2.2.1 HNE.out.2.2.2.1 HNE.out.2.2.2.2 ht) (by rw [HLn.out]; omega))⟩
          case measure => simp [intOf]; omega
      · obtain rfl : i = Ln := by omega
        have r0 : wr.cell? ⟨W.heap.size, 0, none⟩ = some (.int .i64 0) := hb5.cell 0
        have r1 : wr.cell? ⟨W.heap.size, 1, none⟩ = some (.int .i64 0) := hb5.cell 1
        have r2 : wr.cell? ⟨W.heap.size, 2, none⟩ = some (.int .i64 0) := hb5.cell 2
        have z0 : wr.frozen? ⟨W.heap.size, 0, none⟩ = false := hb5.frozen 0
        have z1 : wr.frozen? ⟨W.heap.size, 1, none⟩ = false := hb5.frozen 1
        have z2 : wr.frozen? ⟨W.heap.size, 2, none⟩ = false := hb5.frozen 2
        have HB5 := Lib.hid hb5
        have hl5 := hb5.lt
        clear hO hK hT hb5
        go_wp2_with fail
        refine bodyPost_ret (results_tc rfl _ _ _ rfl (load35 (((HB5.out.put 0 _).put 1 _).put 2 _))) rfl ?_
        exact tin_ret HT.out .fine (by rw [List.drop_of_length_le (by rw [HLn.out]; exact Nat.le_refl _)]; exact Told.nil) (three wr W.heap.size _ _ _) HF5.out
end Go.Proofs.Ytfkkhnceffhilaa
