import Derived.Test.YtpgfdoakehpnlaaGreatDoorAxM
import Derived.Test.YtpgfdoakehpnlaaGreatDoorAxN
set_option linter.unusedVariables false
set_option linter.unusedSimpArgs false
namespace Go.AM
open Go Go.Proofs
set_option linter.unusedVariables false
/-! # Soundness, part 44: slices.Insert at the head -/
section
variable {C : Cx} {ν : Vl} {ρ : Nm} {nx : Nat} {H : T AB} {L : Log} {w w' : World} {k : AV → Nat → T AB → Log → Ans} {z : Ans} {a : Act} {o : Oper}
theorem cellV_one {v : Value} (h : cellV v = true) : v.oneCell' = true := by cases v <;> first | rfl | cases h
theorem HR.renew (hr : HR ν ρ nx H w) {H1 : T AB} {rk : Option Nat} {B : Nat} {C' : Array Value} {e' : TypeId} {xs : List AV} {us t' : List Value} (hgr : w.grownBy w' rk)
    (hH : ∀ c A, H1.get c = some A → H.get c = some A ∧ ∀ q s, ρ c = some (q, s) → rk ≠ some q) (hB : w.heap.size ≤ B ∨ rk = some B) (hc : w'.heap[B]? = some (.cells C' e' (0, 0)))
    (hC : C'.toList = us ++ t') (hus : VRs ν ρ xs us) (hcv : ∀ u ∈ us, cellV u = true) : HR ν (upd ρ nx (B, C'.size)) (nx + 1) (H1.put nx (some (.row xs))) w' := by
  have hnx : ρ nx = none := hr.new nx (Nat.le_refl _)
  have hext := upd_ext hnx (B, C'.size)
  have hlt : B < w'.heap.size := (Array.getElem?_eq_some_iff.1 hc).1
  have hkeep : ∀ c A q s, H1.get c = some A → ρ c = some (q, s) → w'.heap[q]? = w.heap[q]? := fun c A q s hA hq => hgr.block q (hr.old c q s hq) (fun e => (hH c A hA).2 q s hq e.symm)
  have hne : ∀ c A q s, H1.get c = some A → ρ c = some (q, s) → q ≠ B := by
    intro c A q s hA hq e
    rcases hB with h | h
    · have := hr.old c q s hq; omega
    · exact (hH c A hA).2 q s hq (by rw [h, e])
  refine ⟨fun c A hA => ?_, fun c d A E q s t hA hE h1 h2 => ?_, fun c hcx => ?_, fun c q s hq => ?_⟩
  · rw [T.get_put] at hA
    by_cases e : c = nx
    · subst e
      rw [if_pos rfl] at hA; cases hA
      exact ⟨B, C'.size, _, upd_same _ _ _, hc, us, hus.ext hext, hcv, ⟨C', e', (0, 0), t', rfl, hC, rfl, .inl rfl⟩, rfl⟩
    · rw [if_neg e] at hA
      obtain ⟨q, s, ob, k1, k2, k3⟩ := hr.blk c A (hH c A hA).1
      exact ⟨q, s, ob, hext _ _ k1, by rw [hkeep c A q s hA k1]; exact k2, k3.ext hext⟩
  · rw [T.get_put] at hA hE
    by_cases e : c = nx
    · by_cases e2 : d = nx
      · rw [e, e2]
      · rw [if_neg e2] at hE
        rw [e, upd_same] at h1
        simp only [upd, if_neg e2] at h2
        cases h1
        exact (hne d E _ _ hE h2 rfl).elim
    · rw [if_neg e] at hA
      simp only [upd, if_neg e] at h1
      by_cases e2 : d = nx
      · rw [e2, upd_same] at h2
        cases h2
        exact (hne c A _ _ hA h1 rfl).elim
      · rw [if_neg e2] at hE
        simp only [upd, if_neg e2] at h2
        exact hr.inj c d A E q s t (hH c A hA).1 (hH d E hE).1 h1 h2
  · simp only [upd]; rw [if_neg (by omega)]; exact hr.new c (by omega)
  · by_cases e : c = nx
    · rw [e, upd_same] at hq; cases hq; exact hlt
    · simp only [upd, if_neg e] at hq
      exact Nat.lt_of_lt_of_le (hr.old _ _ _ hq) hgr.size
theorem Stp.renew (hr : HR ν ρ nx H w) {rk : Option Nat} {B s' : Nat} {D : Log} (hgr : w.grownBy w' rk) (hB : w.heap.size ≤ B ∨ rk = some B) (hD : ∀ q, rk = some q → ∃ c s, (c, true) ∈ D ∧ ρ c = some (q, s)) : Stp ρ w (upd ρ nx (B, s')) w' D := by
  have hnx : ρ nx = none := hr.new nx (Nat.le_refl _)
  refine ⟨upd_ext hnx _, hgr.os, hgr.tape, hgr.output, hgr.size, fun r hr2 hf => hgr.block r hr2 (fun e => ?_), fun c q s h1 h2 => ?_⟩
  · obtain ⟨c, s, h1, h2⟩ := hD r e.symm
    exact hf c s h1 h2
  · by_cases e : c = nx
    · rw [e, upd_same] at h2; cases h2
      rcases hB with h | h
      · exact .inl h
      · exact .inr (hD _ h)
    · simp only [upd, if_neg e] at h2
      rw [h1] at h2; cases h2
/-- what slices.Insert does at the head -/
structure InsOk (P : Program) (f K : Nat) : Prop where
  row : ∀ (r2 r1 n c c1 : Nat) (C1 C2 : Array Value) (e1 e2 : TypeId) (vs cs t1 t2 : List Value) (w : World),
    w.heap[r1]? = some (.cells C1 e1 (0, 0)) → w.heap[r2]? = some (.cells C2 e2 (0, 0)) → r1 ≠ r2 → vs.length = K → cs.length = n * K →
    C1.toList = vs ++ t1 → C2.toList = cs ++ t2 → (∀ v ∈ vs, v.oneCell' = true) → (∀ v ∈ cs, v.oneCell' = true) → 0 < n → n ≤ c → c * K ≤ C2.size → n ≤ 65536 → 1 ≤ c1 →
    Calls P f #[.slice (some ⟨r2, 0, none⟩) n c, .int .i64 0, .slice (some ⟨r1, 0, none⟩) 1 c1] w fun e w' =>
      ∃ (B G : Nat) (C' : Array Value) (e' : TypeId) (t' : List Value), e = .returned (.slice (some ⟨B, 0, none⟩) (n + 1) G) ∧ n + 1 ≤ G ∧ G * K ≤ C'.size ∧ C'.toList = vs ++ cs ++ t' ∧
        w'.heap[B]? = some (.cells C' e' (0, 0)) ∧ (w.heap.size ≤ B ∨ some r2 = some B) ∧ w.grownBy w' (some r2)
  zero : ∀ (r2 r1 c c1 : Nat) (C1 C2 : Array Value) (e1 e2 : TypeId) (vs t1 : List Value) (w : World),
    w.heap[r1]? = some (.cells C1 e1 (0, 0)) → w.heap[r2]? = some (.cells C2 e2 (0, 0)) → vs.length = K → C1.toList = vs ++ t1 → (∀ v ∈ vs, v.oneCell' = true) → 1 ≤ c → c * K ≤ C2.size → 1 ≤ c1 →
    Calls P f #[.slice (some ⟨r2, 0, none⟩) 0 c, .int .i64 0, .slice (some ⟨r1, 0, none⟩) 1 c1] w fun e w' =>
      e = .returned (.slice (some ⟨r2, 0, none⟩) 1 c) ∧ w' = w.setRow r2 (vs ++ C2.toList.drop vs.length).toArray
  none : ∀ (r1 c1 : Nat) (C1 : Array Value) (e1 : TypeId) (vs t1 : List Value) (w : World),
    w.heap[r1]? = some (.cells C1 e1 (0, 0)) → vs.length = K → C1.toList = vs ++ t1 → (∀ v ∈ vs, v.oneCell' = true) → 1 ≤ c1 →
    Calls P f #[.slice none 0 0, .int .i64 0, .slice (some ⟨r1, 0, none⟩) 1 c1] w fun e w' =>
      ∃ (B G : Nat) (C' : Array Value) (e' : TypeId) (t' : List Value), e = .returned (.slice (some ⟨B, 0, none⟩) 1 G) ∧ 1 ≤ G ∧ G * K ≤ C'.size ∧ C'.toList = vs ++ t' ∧
        w'.heap[B]? = some (.cells C' e' (0, 0)) ∧ w.heap.size ≤ B ∧ w.grownBy w' none
theorem capOne_of {ν : Vl} {cap : Cp} {c : Nat} (h : capOne cap = true) (k : capR ν cap c) : 1 ≤ c := by
  unfold capOne at h
  split at h
  · rename_i n
    have h := Nat.le_of_ble_eq_true h
    have k : (Int.ofNat n : Int) = (c : Int) := k
    have e : (Int.ofNat n : Int) = (n : Int) := rfl
    omega
  · rename_i n
    have h := Nat.le_of_ble_eq_true h
    have k : (Int.ofNat n : Int) ≤ (c : Int) := k
    have e : (Int.ofNat n : Int) = (n : Int) := rfl
    omega
  · cases h
theorem insOk211 : InsOk Tryz.prog 211 2 := by
  refine ⟨?_, fun r2 r1 c c1 C1 C2 e1 e2 vs t1 w h1 h2 hv hC1 o1 hc hcs hc1 => ins211_zero r2 r1 c c1 C1 C2 e1 e2 vs t1 w h1 h2 hv hC1 o1 hc hcs hc1, ?_⟩
  · intro r2 r1 n c c1 C1 C2 e1 e2 vs cs t1 t2 w h1 h2 hne hv hcs hC1 hC2 o1 o2 hn hnc hcc hbig hc1
    rcases Nat.lt_or_ge c (n + 1) with hlt | hge
    · refine (ins211_grow r2 r1 n c c1 C1 C2 e1 e2 vs cs t1 t2 w h1 h2 hv hcs hC1 hC2 o1 o2 hn hnc hlt hbig hc1).mono ?_
      rintro e w' ⟨G, C', t', q1, q2, q3, q4, q5, q6⟩
      exact ⟨_, G, C', _, t', q1, q2, q3, q4, q5, .inl (Nat.le_refl _), q6.os, q6.tape, q6.output, q6.size, fun k hk _ => q6.block k hk (by simp)⟩
    · refine (ins211_room r2 r1 n c c1 C1 C2 e1 e2 vs cs t1 t2 w h1 h2 hne hv hcs hC1 hC2 o1 o2 hn hge hcc hbig hc1).mono ?_
      rintro e w' ⟨rfl, rfl⟩
      have hl2 : C2.toList.length = C2.size := by simp
      have hsz : cs.length ≤ C2.size := by rw [← hl2, hC2]; simp
      have hroom : (n + 1) * 2 ≤ C2.size := Nat.le_trans (Nat.mul_le_mul_right _ hge) hcc
      have hg1 : (w.drew.setRow r2 (C2.toList.take 2 ++ cs ++ C2.toList.drop (2 + cs.length)).toArray).heap[r2]? = some (.cells (C2.toList.take 2 ++ cs ++ C2.toList.drop (2 + cs.length)).toArray e2 (0, 0)) := setRow_heap _ _ _ _ _ _ h2
      refine ⟨r2, c, _, e2, C2.toList.drop (2 + cs.length), rfl, hge, ?_, ?_, setRow_heap _ _ _ _ _ _ hg1, .inr rfl, rfl, rfl, rfl, by simp, fun k hk hkr => ?_⟩
      · simp; omega
      · simp only [List.toList_toArray, hv, List.append_assoc]
        congr 1
        exact List.drop_left' (by simp; omega)
      · have : k ≠ r2 := fun e => hkr (by rw [e])
        rw [setRow_other _ _ _ _ this, setRow_other _ _ _ _ this]
        rfl
  · intro r1 c1 C1 e1 vs t1 w h1 hv hC1 o1 hc1
    refine (ins211_nil r1 c1 C1 e1 vs t1 w h1 hv hC1 o1 hc1).mono ?_
    rintro e w' ⟨G, C', t', q1, q2, q3, q4, q5, q6⟩
    exact ⟨_, G, C', _, t', q1, q2, q3, q4, q5, Nat.le_refl _, q6⟩
theorem insOk323 : InsOk Tryz.prog 323 12 := by
  refine ⟨?_, fun r2 r1 c c1 C1 C2 e1 e2 vs t1 w h1 h2 hv hC1 o1 hc hcs hc1 => ins323_zero r2 r1 c c1 C1 C2 e1 e2 vs t1 w h1 h2 hv hC1 o1 hc hcs hc1, ?_⟩
  · intro r2 r1 n c c1 C1 C2 e1 e2 vs cs t1 t2 w h1 h2 hne hv hcs hC1 hC2 o1 o2 hn hnc hcc hbig hc1
    rcases Nat.lt_or_ge c (n + 1) with hlt | hge
    · refine (ins323_grow r2 r1 n c c1 C1 C2 e1 e2 vs cs t1 t2 w h1 h2 hv hcs hC1 hC2 o1 o2 hn hnc hlt hbig hc1).mono ?_
      rintro e w' ⟨G, C', t', q1, q2, q3, q4, q5, q6⟩
      exact ⟨_, G, C', _, t', q1, q2, q3, q4, q5, .inl (Nat.le_refl _), q6.os, q6.tape, q6.output, q6.size, fun k hk _ => q6.block k hk (by simp)⟩
    · refine (ins323_room r2 r1 n c c1 C1 C2 e1 e2 vs cs t1 t2 w h1 h2 hne hv hcs hC1 hC2 o1 o2 hn hge hcc hbig hc1).mono ?_
      rintro e w' ⟨rfl, rfl⟩
      have hl2 : C2.toList.length = C2.size := by simp
      have hsz : cs.length ≤ C2.size := by rw [← hl2, hC2]; simp
      have hroom : (n + 1) * 12 ≤ C2.size := Nat.le_trans (Nat.mul_le_mul_right _ hge) hcc
      have hg1 : (w.drew.setRow r2 (C2.toList.take 12 ++ cs ++ C2.toList.drop (12 + cs.length)).toArray).heap[r2]? = some (.cells (C2.toList.take 12 ++ cs ++ C2.toList.drop (12 + cs.length)).toArray e2 (0, 0)) := setRow_heap _ _ _ _ _ _ h2
      refine ⟨r2, c, _, e2, C2.toList.drop (12 + cs.length), rfl, hge, ?_, ?_, setRow_heap _ _ _ _ _ _ hg1, .inr rfl, rfl, rfl, rfl, by simp, fun k hk hkr => ?_⟩
      · simp; omega
      · simp only [List.toList_toArray, hv, List.append_assoc]
        congr 1
        exact List.drop_left' (by simp; omega)
      · have : k ≠ r2 := fun e => hkr (by rw [e])
        rw [setRow_other _ _ _ _ this, setRow_other _ _ _ _ this]
        rfl
  · intro r1 c1 C1 e1 vs t1 w h1 hv hC1 o1 hc1
    refine (ins323_nil r1 c1 C1 e1 vs t1 w h1 hv hC1 o1 hc1).mono ?_
    rintro e w' ⟨G, C', t', q1, q2, q3, q4, q5, q6⟩
    exact ⟨_, G, C', _, t', q1, q2, q3, q4, q5, Nat.le_refl _, q6⟩
theorem ext_insert (hfit : FitP C.P) {f K : Nat} (hI : InsOk C.P f K) (hbody : hasBody C.P f = true) (hr : HR ν ρ nx H w) (hg : Glob ρ) (hz : Yes z) {s x : AV} {vs : List Value} (hv : VRs ν ρ [s, .int .i64 (.k 0), x] vs) (h : insA K s x k nx H L = z) : OpOk C ν ρ nx L w k z o a ((callFunc f ⟨vs⟩).run C.P w) := by
  obtain ⟨sv, l1, rfl, hs, h1⟩ := hv.cons
  obtain ⟨iv, l2, rfl, hi, h2⟩ := h1.cons
  obtain ⟨xv, l3, rfl, hx, h3⟩ := h2.cons
  cases h3.nil
  have hi : iv = .int .i64 0 := hi
  subst hi
  rw [hasBody_run hfit hbody]
  intro next Q hn
  rw [Oper.upon_enter]
  unfold insA at h
  split at h
  case h_2 => exact (hz _ h.symm).elim
  rename_i b cap z0
  obtain ⟨X, hX, h'⟩ := rd_ok hz h
  obtain ⟨cs, hcs, h''⟩ := lift_ok hz h'
  clear h'
  clear h
  have h := h''
  clear h''
  have hrow : X = .row cs ∧ cs.length = K := by
    unfold insRow at hcs
    split at hcs
    · obtain ⟨h1, h2⟩ := bc_some hcs
      cases h2
      exact ⟨rfl, Nat.eq_of_beq_eq_true h1⟩
    · cases hcs
  obtain ⟨rfl, hK⟩ := hrow
  obtain ⟨r1, sz1, obj1, hp1, hw1, vs1, hvs1, hcv1, ⟨C1, e1, fr1, t1, rfl, hC1, hsz1, _⟩, hu1⟩ := hr.blk b _ hX
  cases hu1
  obtain ⟨r, sz, o1, n1, c1, hq1, hq2, hq3, _, hq5, _, rfl⟩ := hx
  rw [hp1] at hq1
  cases hq1
  have hn1 : n1 = 1 := by have : (1 : Int) = n1 := hq3; omega
  subst hn1
  have ho1 : o1 = 0 := by
    rcases hq2 with h | h
    · omega
    · have : (0 : Int) = o1 := h; omega
  subst ho1
  have hlv : vs1.length = K := by rw [hvs1.length, hK]
  have one1 : ∀ v ∈ vs1, v.oneCell' = true := fun v hv => cellV_one (hcv1 v hv)
  unfold insB at h
  split at h
  · -- nothing stood there
    have hs : sv = .slice none 0 0 := hs
    subst hs
    refine (hI.none r1 c1 C1 e1 vs1 t1 w hw1 hlv hC1 one1 hq5).mono ?_
    rintro e w' ⟨B, G, C', e', t', rfl, k1, k2, k3, k4, k5, k6⟩
    refine hn _ (nx + 1) _ [(nx, true), (b, false)] (upd ρ nx (B, C'.size)) _ w' h ⟨Nat.le_succ _, fun c hc => by simp only [upd]; rw [if_neg (by omega)]⟩ ?_ (hr.renew k6 (fun c A hA => ⟨hA, fun _ _ _ => by simp⟩) (.inl k5) k4 k3 hvs1 hcv1) (Stp.renew hr k6 (.inl k5) (fun q hq => by cases hq))
    exact ⟨B, C'.size, 0, 1, G, upd_same _ _ _, .inr rfl, rfl, (by show (1 : Int) ≤ G; omega), k1, by omega, rfl⟩
  · rename_i b2 len cap2 z2
    obtain ⟨A, hA, h'⟩ := rd_ok hz h
    obtain ⟨old, hold, h''⟩ := lift_ok hz h'
    obtain ⟨_, h3⟩ := wr_ok hz h''
    clear h'
    clear h
    clear h''
    have h := h3
    clear h3
    unfold insOld at hold
    obtain ⟨hzK, hold⟩ := bc_some hold
    have hzK := Nat.eq_of_beq_eq_true hzK
    subst hzK
    cases hbb : Nat.beq b b2 with
    | true => rw [hbb] at hold; cases hold
    | false =>
    rw [hbb] at hold
    obtain ⟨hl1, hold⟩ := bc_some (show bc (bc (Nat.ble 1 len) true (capOne cap2)) _ none = some old from hold)
    obtain ⟨hl2, hold⟩ := bc_some hold
    have hl2 := Nat.le_of_ble_eq_true hl2
    cases A with
    | byt _ => cases hold
    | map _ => cases hold
    | lt _ _ => cases hold
    | row cs2 =>
    obtain ⟨hold, hle⟩ := ltake_some (show ltake (Nat.mul len z2) cs2 = some old from hold)
    subst hold
    have hle : len * z2 ≤ cs2.length := hle
    obtain ⟨r2, sz2, obj2, hp2, hw2, vs2, hvs2, hcv2, ⟨C2, e2, fr2, t2, rfl, hC2, hsz2, _⟩, hu2⟩ := hr.blk b2 _ hA
    cases hu2
    obtain ⟨r, sz, o2, n2, c2, hq1', hq2', hq3', _, hq5', hq6', rfl⟩ := hs
    rw [hp2] at hq1'
    cases hq1'
    have hn2 : n2 = len := by have : (Int.ofNat len : Int) = n2 := hq3'; have h9 : (Int.ofNat len : Int) = (len : Int) := rfl; omega
    subst hn2
    have hc2 : 1 ≤ c2 := by
      cases hb : Nat.ble 1 n2 with
      | true => have := Nat.le_of_ble_eq_true hb; omega
      | false => rw [hb] at hl1; exact capOne_of hl1 (by assumption)
    have ho2 : o2 = 0 := by
      rcases hq2' with h | h
      · omega
      · have : (0 : Int) = o2 := h; omega
    subst ho2
    have hne : r1 ≠ r2 := by
      intro e
      subst e
      have := hr.inj b b2 _ _ r1 _ _ hX hA hp1 hp2
      rw [this] at hbb
      simp at hbb
    have hlen : (vs2.take (n2 * z2)).length = n2 * z2 := by rw [List.length_take, hvs2.length]; omega
    have hC2' : C2.toList = vs2.take (n2 * z2) ++ (vs2.drop (n2 * z2) ++ t2) := by rw [hC2, ← List.append_assoc, List.take_append_drop]
    have hcv2' : ∀ v ∈ vs2.take (n2 * z2), cellV v = true := fun v hv => hcv2 v (List.mem_of_mem_take hv)
    have hCalls : Calls C.P f #[.slice (some ⟨r2, 0, none⟩) n2 c2, .int .i64 0, .slice (some ⟨r1, 0, none⟩) 1 c1] w fun e w' =>
      ∃ (B G : Nat) (C' : Array Value) (e' : TypeId) (t' : List Value), e = .returned (.slice (some ⟨B, 0, none⟩) (n2 + 1) G) ∧ n2 + 1 ≤ G ∧ G * z2 ≤ C'.size ∧ C'.toList = vs1 ++ vs2.take (n2 * z2) ++ t' ∧
        w'.heap[B]? = some (.cells C' e' (0, 0)) ∧ (w.heap.size ≤ B ∨ some r2 = some B) ∧ w.grownBy w' (some r2) := by
      rcases Nat.eq_zero_or_pos n2 with h0 | hl1
      · subst h0
        refine (hI.zero r2 r1 c2 c1 C1 C2 e1 e2 vs1 t1 w hw1 hw2 hlv hC1 one1 hc2 (by omega) hq5).mono ?_
        rintro e w' ⟨rfl, rfl⟩
        have hl2' : C2.toList.length = C2.size := by simp
        have hz2 : 1 * z2 ≤ c2 * z2 := Nat.mul_le_mul_right _ hc2
        refine ⟨r2, c2, _, e2, C2.toList.drop vs1.length, rfl, hc2, ?_, ?_, setRow_heap _ _ _ _ _ _ hw2, .inr rfl, rfl, rfl, rfl, by simp, fun k hk hkr => setRow_other _ _ _ _ (fun e => hkr (by rw [e]))⟩
        · simp only [List.size_toArray, List.length_append, List.length_drop, hl2', hlv]; omega
        · simp
      · exact hI.row r2 r1 n2 c2 c1 C1 C2 e1 e2 vs1 (vs2.take (n2 * z2)) t1 _ w hw1 hw2 hne hlv hlen hC1 hC2' one1 (fun v hv => cellV_one (hcv2' v hv)) hl1 hq5' (by omega) hl2 hq5
    refine hCalls.mono ?_
    rintro e w' ⟨B, G, C', e', t', rfl, k1, k2, k3, k4, k5, k6⟩
    have k5 : w.heap.size ≤ B ∨ (some r2 : Option Nat) = some B := k5
    refine hn _ (nx + 1) _ [(nx, true), (b2, true), (b2, false), (b, false)] (upd ρ nx (B, C'.size)) _ w' h ⟨Nat.le_succ _, fun c hc => by simp only [upd]; rw [if_neg (by omega)]⟩ ?_ (hr.renew k6 (fun c A' hA' => ?_) k5 k4 k3 (hvs1.append (hvs2.take (n2 * z2))) (fun u hu => ?_)) (Stp.renew hr k6 k5 (fun q hq => ⟨b2, C2.size, by simp, by cases hq; rw [hp2, hsz2]⟩))
    · refine ⟨B, C'.size, 0, n2 + 1, G, upd_same _ _ _, .inr rfl, rfl, ?_, k1, by omega, rfl⟩
      show (Int.ofNat (Nat.succ n2) : Int) ≤ G
      have : (Int.ofNat (Nat.succ n2) : Int) = ((n2 + 1 : Nat) : Int) := rfl
      omega
    · rw [T.get_put] at hA'
      by_cases e : c = b2
      · rw [if_pos e] at hA'; cases hA'
      · rw [if_neg e] at hA'
        refine ⟨hA', fun q s hq hq2 => e ?_⟩
        cases hq2
        exact hr.inj c b2 _ _ r2 _ _ hA' hA hq hp2
    · rcases List.mem_append.1 hu with h | h
      · exact hcv1 u h
      · exact hcv2' u h
  · exact (hz _ h.symm).elim
end
end Go.AM
namespace Go.AM
open Go Go.Proofs Go.ChangeShapes Go.WideShapes Go.ChangeAt Go.RowKit
set_option linter.unusedVariables false
/-! # reservoirbook.Within -/
set_option maxHeartbeats 4000000 in
theorem within_any (m lo hi : Int) (w : World) (h1 : 0 ≤ lo) (h2 : lo ≤ hi) (h3 : hi ≤ 100000) :
    Calls Tryz.prog 12 #[.int .i64 m, .int .i64 lo, .int .i64 hi] w fun e w' => e = .returned (.int .i64 (lo + m % (hi - lo + 1))) ∧ w' = w := by
  have a1 : IntKind.i64.wrap (hi - lo) = hi - lo := by rw [IntKind.wrap_i64]; omega
  have a2 : IntKind.i64.wrap (hi - lo + 1) = hi - lo + 1 := by rw [IntKind.wrap_i64]; omega
  have a3 : ¬ (hi - lo + 1 = 0) := by omega
  have hd : 0 < hi - lo + 1 := by omega
  have hb1 : m.tmod (hi - lo + 1) < hi - lo + 1 := Int.tmod_lt_of_pos _ hd
  have hb2 : -(hi - lo + 1) < m.tmod (hi - lo + 1) := by
    have e : m.tmod (hi - lo + 1) = -((-m).tmod (hi - lo + 1)) := by rw [Int.neg_tmod, Int.neg_neg]
    have := Int.tmod_lt_of_pos (-m) hd
    omega
  have he := Int.emod_nonneg m (by omega : hi - lo + 1 ≠ 0)
  have he2 := Int.emod_lt_of_pos m hd
  generalize hT : m.tmod (hi - lo + 1) = T at hb1 hb2
  generalize hE : m % (hi - lo + 1) = E at he he2
  have hTE : (T < 0 → E = T + (hi - lo + 1)) ∧ (0 ≤ T → E = T) := by
    have k1 : (m - T) = (hi - lo + 1) * m.tdiv (hi - lo + 1) := by rw [← hT]; have := Int.mul_tdiv_add_tmod m (hi - lo + 1); omega
    have k2 : (m - E) = (hi - lo + 1) * (m / (hi - lo + 1)) := by rw [← hE]; have := Int.mul_ediv_add_emod m (hi - lo + 1); omega
    have k3 : (hi - lo + 1) ∣ (E - T) := by
      have : E - T = (m - T) - (m - E) := by omega
      rw [this, k1, k2]
      exact Int.dvd_sub (Int.dvd_mul_right _ _) (Int.dvd_mul_right _ _)
    obtain ⟨q, hq⟩ := k3
    generalize hi - lo + 1 = d at *
    refine ⟨fun ht => ?_, fun ht => ?_⟩
    · have : q = 1 := by
        have h5 : 0 < d * q := by omega
        have h6 : d * q < d * 2 := by omega
        have h7 : 0 < q := by
          rcases Int.lt_or_le 0 q with h | h
          · exact h
          · have := Int.mul_nonpos_of_nonneg_of_nonpos (by omega : 0 ≤ d) h; omega
        have h8 : q < 2 := Int.lt_of_mul_lt_mul_left h6 (by omega)
        omega
      subst this; omega
    · have : q = 0 := by
        have h5 : d * q < d * 1 := by omega
        have h6 : d * (-1) < d * q := by omega
        have h7 := Int.lt_of_mul_lt_mul_left h5 (by omega)
        have h8 := Int.lt_of_mul_lt_mul_left h6 (by omega)
        omega
      subst this; omega
  clear he he2 hE
  go_enter Tryz.func12, Tryz.ntmps12
  by_cases ht : T < 0
  · have hE := hTE.1 ht
    have b1 : IntKind.i64.wrap (T + hi) = T + hi := by rw [IntKind.wrap_i64]; omega
    have b2 : IntKind.i64.wrap (T + hi - lo) = T + hi - lo := by rw [IntKind.wrap_i64]; omega
    have b3 : IntKind.i64.wrap (T + hi - lo + 1) = T + hi - lo + 1 := by rw [IntKind.wrap_i64]; omega
    have b4 : IntKind.i64.wrap (lo + (T + hi - lo + 1)) = lo + (T + hi - lo + 1) := by rw [IntKind.wrap_i64]; omega
    have hfin : lo + E = lo + (T + hi - lo + 1) := by omega
    rw [hfin]
    clear hTE hfin hE
    go_wp2
    go_ret
    exact ⟨rfl, rfl⟩
  · have hE := hTE.2 (by omega)
    have b4 : IntKind.i64.wrap (lo + T) = lo + T := by rw [IntKind.wrap_i64]; omega
    rw [hE]
    clear hTE hE
    go_wp2
    go_ret
    exact ⟨rfl, rfl⟩
end Go.AM
