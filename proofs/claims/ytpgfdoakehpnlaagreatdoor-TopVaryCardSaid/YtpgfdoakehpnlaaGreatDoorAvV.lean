import Derived.Test.YtpgfdoakehpnlaaGreatDoorAvB
import Derived.Test.YtpgfdoakehpnlaaGreatDoorAvS
import Derived.Test.YtpgfdoakehpnlaaGreatDoorAvT
import Derived.Test.YtpgfdoakehpnlaaGreatDoorAvU
set_option linter.unusedVariables false
set_option linter.unusedSimpArgs false
namespace Go.AM.Hu
set_option linter.unusedVariables false
/-! # Huffman's code: the writer's number and its bits -/
theorem val_go : ∀ (l : List Bool) (a : Nat), l.foldl (fun a b => 2 * a + bitN b) a = a * 2 ^ l.length + val l := by
  intro l
  induction l with
  | nil => intro a; simp [val]
  | cons b l ih =>
    intro a
    have h1 : (b :: l).foldl (fun a b => 2 * a + bitN b) a = l.foldl (fun a b => 2 * a + bitN b) (2 * a + bitN b) := rfl
    have h2 : val (b :: l) = l.foldl (fun a b => 2 * a + bitN b) (2 * 0 + bitN b) := rfl
    rw [h1, h2, ih, ih, List.length_cons, Nat.pow_succ, Nat.add_mul, Nat.mul_zero, Nat.zero_add]
    have : 2 * a * 2 ^ l.length = a * (2 ^ l.length * 2) := by rw [Nat.mul_comm 2 a, Nat.mul_assoc, Nat.mul_comm 2]
    omega
theorem val_app (A B : List Bool) : val (A ++ B) = val A * 2 ^ B.length + val B := by
  unfold val
  rw [List.foldl_append]
  exact val_go B _
/-- the next code behind the bits that wait -/
theorem shl_step {left n q code : Nat} {pend bs : List Bool} (hp : pend.length = n) (hb : bs.length = q) (hv : left % 2 ^ n = val pend) (hc : val bs = code) (hcl : code < 2 ^ q) (hnq : n + q ≤ 64) :
    ((left * 2 ^ q % 2 ^ 64) ||| code) < 2 ^ 64 ∧ ((left * 2 ^ q % 2 ^ 64) ||| code) % 2 ^ (n + q) = val (pend ++ bs) := by
  have e1 : left * 2 ^ q % 2 ^ 64 = 2 ^ q * (left % 2 ^ (64 - q)) := by
    have : 2 ^ 64 = 2 ^ q * 2 ^ (64 - q) := by rw [← Nat.pow_add]; congr 1; omega
    rw [this, Nat.mul_comm left, Nat.mul_mod_mul_left]
  rw [e1, ← Nat.two_pow_add_eq_or_of_lt hcl]
  refine ⟨?_, ?_⟩
  · have h2 : left % 2 ^ (64 - q) < 2 ^ (64 - q) := Nat.mod_lt _ (Nat.pow_pos (by decide))
    have h3 : 2 ^ q * (left % 2 ^ (64 - q) + 1) ≤ 2 ^ q * 2 ^ (64 - q) := Nat.mul_le_mul_left _ h2
    have h4 : 2 ^ q * 2 ^ (64 - q) = 2 ^ 64 := by rw [← Nat.pow_add]; congr 1; omega
    rw [Nat.mul_add, Nat.mul_one] at h3
    omega
  · rw [val_app, hb, hc, ← hv]
    have h5 : (2 ^ q * (left % 2 ^ (64 - q)) + code) % 2 ^ (n + q) = 2 ^ q * (left % 2 ^ (64 - q) % 2 ^ n) + code := by
      rw [Nat.add_comm n q, Nat.pow_add, Nat.mod_mul]
      rw [Nat.mul_add_mod, Nat.mod_eq_of_lt hcl, Nat.mul_add_div (Nat.pow_pos (by decide)), Nat.div_eq_of_lt hcl, Nat.add_zero]
      omega
    rw [h5, Nat.mod_mod_of_dvd _ (Nat.pow_dvd_pow 2 (by omega)), Nat.mul_comm]
/-- the next byte of the bits that wait -/
theorem shr_step {left n m : Nat} {pend : List Bool} (hp : pend.length = n) (hn : n = m + 8) (hv : left % 2 ^ n = val pend) :
    left / 2 ^ m % 256 = val (pend.take 8) ∧ left % 2 ^ m = val (pend.drop 8) := by
  have h1 := val_app (pend.take 8) (pend.drop 8)
  rw [List.take_append_drop, List.length_drop, hp, hn, Nat.add_sub_cancel] at h1
  have h2 := val_lt (pend.drop 8)
  rw [List.length_drop, hp, hn, Nat.add_sub_cancel] at h2
  have h3 : left % 2 ^ m = left % 2 ^ n % 2 ^ m := by rw [Nat.mod_mod_of_dvd _ (Nat.pow_dvd_pow 2 (by omega))]
  have h4 : left / 2 ^ m % 256 = left % 2 ^ n / 2 ^ m := by
    rw [hn, Nat.pow_add, Nat.mod_mul, Nat.mul_comm (2 ^ m), Nat.add_mul_div_right _ _ (Nat.pow_pos (by decide)), Nat.div_eq_of_lt (Nat.mod_lt _ (Nat.pow_pos (by decide)))]
    simp
  rw [h3, h4, hv, h1]
  refine ⟨?_, ?_⟩
  · rw [Nat.add_comm, Nat.add_mul_div_right _ _ (Nat.pow_pos (by decide)), Nat.div_eq_of_lt h2, Nat.zero_add]
  · rw [Nat.add_comm, Nat.add_mul_mod_self_right, Nat.mod_eq_of_lt h2]
theorem ones : ∀ r, r ≤ 8 → val (List.replicate r true) = 2 ^ r - 1 := by
  intro r hr
  rcases (show r = 0 ∨ r = 1 ∨ r = 2 ∨ r = 3 ∨ r = 4 ∨ r = 5 ∨ r = 6 ∨ r = 7 ∨ r = 8 by omega) with rfl | rfl | rfl | rfl | rfl | rfl | rfl | rfl | rfl <;> decide
/-- the last byte -/
theorem end_step {left n : Nat} {pend : List Bool} (hp : pend.length = n) (h0 : 0 < n) (hn : n < 8) (hv : left % 2 ^ n = val pend) :
    ((left * 2 ^ (8 - n) % 2 ^ 64 % 256) ||| (255 / 2 ^ n)) = val (pend ++ List.replicate (8 - n) true) ∧ val (pend ++ List.replicate (8 - n) true) < 256 := by
  have h1 : 255 / 2 ^ n = 2 ^ (8 - n) - 1 := by
    rcases (show n = 1 ∨ n = 2 ∨ n = 3 ∨ n = 4 ∨ n = 5 ∨ n = 6 ∨ n = 7 by omega) with rfl | rfl | rfl | rfl | rfl | rfl | rfl <;> decide
  have hpos : 0 < 2 ^ (8 - n) := Nat.pow_pos (by decide)
  have h2 : left * 2 ^ (8 - n) % 2 ^ 64 % 256 = 2 ^ (8 - n) * (left % 2 ^ n) := by
    rw [Nat.mod_mod_of_dvd _ (by decide : 256 ∣ 2 ^ 64)]
    have : 256 = 2 ^ (8 - n) * 2 ^ n := by rw [← Nat.pow_add, show 8 - n + n = 8 by omega]
    rw [this, Nat.mul_comm left, Nat.mul_mod_mul_left]
  refine ⟨?_, ?_⟩
  · rw [h1, h2, ← Nat.two_pow_add_eq_or_of_lt (by omega), val_app, List.length_replicate, ones _ (by omega), hv, Nat.mul_comm]
  · have := val_lt (pend ++ List.replicate (8 - n) true)
    rw [List.length_append, List.length_replicate, hp, show n + (8 - n) = 8 by omega] at this
    exact this
end Go.AM.Hu
namespace Go.AM
open Go Go.Proofs Go.ChangeShapes Go.WideShapes Go.ChangeAt Go.RowKit
set_option linter.unusedVariables false
set_option linter.unusedSimpArgs false
/-! # TopVary: runs of the machine from an empty store; api.Length, huff.Size -/
theorem HRleaf (ν : Vl) {W : World} (h6 : 6 ≤ W.heap.size) : HR ν (rho0 W) 6 .leaf W := by
  refine ⟨fun b A hA => ?_, fun b c A B r s t hA hB _ _ => ?_, fun b hb => if_neg (by omega), fun b r s hr => ?_⟩
  · rw [T.get_leaf] at hA; cases hA
  · rw [T.get_leaf] at hA; cases hA
  · unfold rho0 at hr
    by_cases e : b < 6
    · rw [if_pos e] at hr; cases hr; omega
    · rw [if_neg e] at hr; cases hr
/-- it answers something that is looked at, and has written to nothing old -/
noncomputable def chkV (p : AV → Bool) : Ans → Bool
  | .ok x _ _ D => p x && newW D
  | _ => false
theorem chkV_spec {p : AV → Bool} {A : Ans} (h : chkV p A = true) : ∃ x nx H D, A = .ok x nx H D ∧ p x = true ∧ newW D = true := by
  unfold chkV at h
  split at h
  · rename_i x nx H D
    rw [Bool.and_eq_true] at h
    exact ⟨x, nx, H, D, rfl, h⟩
  · cases h
set_option maxRecDepth 100000 in
theorem calls_leaf {bd : Bd} {ν : Vl} (ok : ν.Ok bd) {m f : Nat} {args : List AV} {vs : List Value} {W : World} (h6 : 6 ≤ W.heap.size) (hbody : hasBody Tryz.prog f = true) (hv : VRs ν (rho0 W) args vs) {p : AV → Bool}
    (hrun : chkV p (callG (CX bd) extIsB m f args fin 6 .leaf []) = true) : Calls Tryz.prog f ⟨vs⟩ W fun e W' => ∃ x v ρ, e = .returned v ∧ p x = true ∧ VR ν ρ x v ∧ Below W.heap.size W W' := by
  obtain ⟨x0, nx, H, D, hA, hp, hD⟩ := chkV_spec hrun
  let o' : Oper := { dst := some 0, op := .ready 0, type := 0, pos := "", after := #[], guard := none }
  let a' : Act := { tmps := #[undef], defers := [] }
  have hop := callX bd ok m (o := o') (a := a') (HRleaf ν h6) (glob0 W) (fun _ e => by rw [hA] at e; cases e) hv rfl
  have hP : (CX bd).P = Tryz.prog := (isX bd).P
  rw [hasBody_run (by rw [hP]; exact fitP) (by rw [hP]; exact hbody)] at hop
  have hin := hop (fun a1 w1 => ∃ v ρ, a1.tmps[0]? = some v ∧ VR ν ρ x0 v ∧ Below W.heap.size W w1) (fun _ _ _ => False) ?_
  · rw [Oper.upon_enter, hP] at hin
    refine hin.mono ?_
    rintro e w1 he
    cases e with
    | returned v =>
      obtain ⟨u, ρ, e1, e2, e3⟩ := he
      have e1 : (a'.put (some 0) v).tmps[0]? = some u := e1
      simp [a', Act.put] at e1
      subst e1
      exact ⟨x0, _, ρ, rfl, hp, e2, e3⟩
    | panicked c => exact he.elim
    | outgrown => obtain ⟨_, _, hf⟩ := he; exact hf.elim
  · intro x nx' H' D' ρ' v w' hk hlow hvr hr' hst
    have hk : Ans.ok x nx' H' (D' ++ []) = .ok x0 nx H D := hk.trans hA
    injection hk with e1 e2 e3 e4
    rw [List.append_nil] at e4
    subst e1; subst e4
    refine ⟨v, ρ', by simp [a', o', Act.put], hvr, ⟨hst.os, hst.tape, hst.output, hst.size, fun r hr => hst.frame r hr fun c s hc e => ?_⟩⟩
    have h6 := List.all_eq_true.1 hD (c, true) hc
    simp at h6
    have : ¬ c < 6 := by omega
    simp [rho0, this] at e
noncomputable def isI (n : Nat) : AV → Bool
  | .int .i64 (.k (.ofNat m)) => Nat.beq n m
  | _ => false
theorem isI_of {n : Nat} {x : AV} (h : isI n x = true) : x = .int .i64 (.k (.ofNat n)) := by
  unfold isI at h
  split at h
  · rw [Nat.eq_of_beq_eq_true h]
  · cases h
set_option maxRecDepth 100000 in
theorem lenRuns : (List.range 256).all (fun c => chkV (isI (Hu.lenOf c)) (callG (CX []) extIsB 1000 298 [.int .i64 (.k (.ofNat c))] fin 6 .leaf [])) = true := by kernel_rfl
theorem body298 : hasBody Tryz.prog 298 = true := by kernel_rfl
theorem length_any (c : Nat) (hc : c < 256) (w : World) (h6 : 6 ≤ w.heap.size) : Calls Tryz.prog 298 #[.int .i64 (c : Int)] w fun e w' => e = .returned (.int .i64 (Hu.lenOf c : Nat)) ∧ Below w.heap.size w w' := by
  have hv : VRs nu0 (rho0 w) [.int .i64 (.k (.ofNat c))] [.int .i64 (c : Int)] := VRs.mk (show Value.int .i64 (c : Int) = .int .i64 (Int.ofNat c) from rfl) VRs.mk0
  refine (calls_leaf okK h6 body298 hv (List.all_eq_true.1 lenRuns c (List.mem_range.2 hc))).mono ?_
  rintro e w' ⟨x, v, ρ, rfl, hp, hv, hB⟩
  have := isI_of hp
  subst this
  have hv : v = .int .i64 (Int.ofNat (Hu.lenOf c)) := hv
  subst hv
  exact ⟨rfl, hB⟩
theorem nb_len (s : ByteArray) : (nb s).length = s.size := by unfold nb; rw [List.length_map, Array.length_toList]; rfl
theorem nb_get (s : ByteArray) (k : Nat) (h : k < s.size) : (nb s)[k]? = some (s[k]'h).toNat := by
  have h1 : k < s.data.toList.length := by rw [Array.length_toList]; exact h
  have : (nb s)[k]? = (s.data.toList[k]?).map UInt8.toNat := by simp [nb]
  rw [this, List.getElem?_eq_getElem h1]
  rfl
theorem nb_lt (s : ByteArray) : ∀ c ∈ nb s, c < 256 := by
  intro c hc
  obtain ⟨b, _, rfl⟩ := List.mem_map.1 hc
  exact b.toNat_lt
theorem nb_take (s : ByteArray) (k : Nat) (h : k < s.size) : (nb s).take (k + 1) = (nb s).take k ++ [(s[k]'h).toNat] := by
  rw [List.take_add_one, nb_get s k h]; rfl
theorem bits_snoc (l : List Nat) (c : Nat) : Hu.bits (l ++ [c]) = Hu.bits l ++ Hu.bitsOf c := by simp only [Hu.bits, List.flatMap_append, List.flatMap_cons, List.flatMap_nil, List.append_nil]
theorem bitsOf_len (c : Nat) : (Hu.bitsOf c).length = Hu.lenOf c := Hu.bitsN_len _ _
/-- the bits of the first bytes, how many -/
def bl (s : ByteArray) (k : Nat) : Nat := (Hu.bits ((nb s).take k)).length
theorem bl_succ (s : ByteArray) (k : Nat) (h : k < s.size) : bl s (k + 1) = bl s k + Hu.lenOf (s[k]'h).toNat := by
  unfold bl; rw [nb_take s k h, bits_snoc, List.length_append, bitsOf_len]
theorem bl_le (s : ByteArray) : ∀ k, k ≤ s.size → bl s k ≤ 30 * k
  | 0, _ => Nat.le_refl _
  | k+1, h => by
    have := bl_le s k (by omega)
    have := (Hu.okC_of (s[k]'(by omega)).toNat_lt).2.1
    rw [bl_succ s k (by omega)]
    omega
theorem bl_all (s : ByteArray) : bl s s.size = (Hu.bits (nb s)).length := by unfold bl; rw [List.take_of_length_le (by rw [nb_len]; exact Nat.le_refl _)]
set_option maxHeartbeats 1000000 in
set_option maxRecDepth 100000 in
theorem size_any (s : ByteArray) (hs : s.size ≤ 65536) (w : World) (h6 : 6 ≤ w.heap.size) : Calls Tryz.prog 256 #[.string s] w fun e w' => e = .returned (.int .i64 (Hu.size (nb s) : Nat)) ∧ Below w.heap.size w w' := by
  generalize hres : Hu.size (nb s) = res
  go_enter Tryz.func256, Tryz.ntmps256
  go_wp2
  go_loopw [7, 3] (fun i v wr => ∃ k : Nat, k ≤ s.size ∧ i = .int .i64 k ∧ v = .int .i64 (bl s k : Nat) ∧ Below w.heap.size w wr) (fun i _ _ => s.size - (intOf i).toNat)
  case atStart => exact ⟨0, Nat.zero_le _, rfl, rfl, Below.refl _ _⟩
  case round =>
    obtain ⟨k, hk, rfl, rfl, hB⟩ := hrel
    by_cases hlt : k < s.size
    · have hki : (k : Int) < (s.size : Int) := by omega
      have hk0 : 0 ≤ (k : Int) := by omega
      have hL := fun w1 h => length_any (s[k]'hlt).toNat (s[k]'hlt).toNat_lt w1 h
      have hsz := hB.size
      have hb := bl_succ s k hlt
      have hb2 := bl_le s (k + 1) hlt
      obtain ⟨c, hc⟩ : ∃ c, (s[k]'hlt).toNat = c := ⟨_, rfl⟩
      have ek : ((s[k]'hlt).toNat : Int) = (c : Int) := by rw [hc]
      have hc2 : c < 256 := by rw [← hc]; exact (s[k]'hlt).toNat_lt
      rw [hc] at hL hb
      generalize hq : Hu.lenOf c = q at *
      generalize hbk : bl s k = B at *
      go_wp2_with (go_at_call 298; refine (hL _ (by omega)).mono ?_; rintro e w1 ⟨rfl, hB1⟩)
      go_roundw
      case rel => exact ⟨k + 1, by omega, by go_num, by rw [hb]; go_num, hB.trans (hB1.mono (by omega))⟩
      case measure => simp [intOf]; omega
    · obtain rfl : k = s.size := by omega
      have hb2 := bl_le s s.size (by omega)
      have hfin : res = (bl s s.size + 7) / 8 := by rw [← hres]; unfold Hu.size; rw [bl_all]
      clear hres
      subst hfin
      generalize hbk : bl s s.size = B at *
      have hB30 : B ≤ 1966080 := by omega
      go_wp2
      go_ret
      exact ⟨by go_num, hB⟩
end Go.AM
namespace Go.AM
open Go Go.Proofs Go.ChangeShapes Go.WideShapes Go.ChangeAt Go.RowKit
set_option linter.unusedVariables false
set_option linter.unusedSimpArgs false
/-! # TopVary: huff.made, and the numbers of huff.Encode -/
set_option maxRecDepth 100000 in
theorem calls_leafH {bd : Bd} {ν : Vl} (ok : ν.Ok bd) {m f : Nat} {args : List AV} {vs : List Value} {W : World} (h6 : 6 ≤ W.heap.size) (hbody : hasBody Tryz.prog f = true) (hv : VRs ν (rho0 W) args vs) {x0 : AV} {nx : Nat} {H : T AB} {D : Log}
    (hA : callG (CX bd) extIsB m f args fin 6 .leaf [] = .ok x0 nx H D) (hD : newW D = true) : Calls Tryz.prog f ⟨vs⟩ W fun e W' => ∃ v ρ, e = .returned v ∧ VR ν ρ x0 v ∧ HR ν ρ nx H W' ∧ Below W.heap.size W W' ∧ ∀ b r s, 6 ≤ b → ρ b = some (r, s) → W.heap.size ≤ r := by
  let o' : Oper := { dst := some 0, op := .ready 0, type := 0, pos := "", after := #[], guard := none }
  let a' : Act := { tmps := #[undef], defers := [] }
  have hop := callX bd ok m (o := o') (a := a') (HRleaf ν h6) (glob0 W) (fun _ e => by rw [hA] at e; cases e) hv rfl
  have hP : (CX bd).P = Tryz.prog := (isX bd).P
  rw [hasBody_run (by rw [hP]; exact fitP) (by rw [hP]; exact hbody)] at hop
  have hin := hop (fun a1 w1 => ∃ v ρ, a1.tmps[0]? = some v ∧ VR ν ρ x0 v ∧ HR ν ρ nx H w1 ∧ Below W.heap.size W w1 ∧ ∀ b r s, 6 ≤ b → ρ b = some (r, s) → W.heap.size ≤ r) (fun _ _ _ => False) ?_
  · rw [Oper.upon_enter, hP] at hin
    refine hin.mono ?_
    rintro e w1 he
    cases e with
    | returned v =>
      obtain ⟨u, ρ, e1, e2⟩ := he
      have e1 : (a'.put (some 0) v).tmps[0]? = some u := e1
      simp [a', Act.put] at e1
      subst e1
      exact ⟨_, ρ, rfl, e2⟩
    | panicked c => exact he.elim
    | outgrown => obtain ⟨_, _, hf⟩ := he; exact hf.elim
  · intro x nx' H' D' ρ' v w' hk hlow hvr hr' hst
    have hk : Ans.ok x nx' H' (D' ++ []) = .ok x0 nx H D := hk.trans hA
    injection hk with e1 e2 e3 e4
    rw [List.append_nil] at e4
    subst e1; subst e2; subst e3; subst e4
    have hnew : ∀ c r s, (c, true) ∈ D' → rho0 W c ≠ some (r, s) := fun c r s hc e => by
      have h6 := List.all_eq_true.1 hD (c, true) hc
      simp at h6
      have : ¬ c < 6 := by omega
      simp [rho0, this] at e
    refine ⟨v, ρ', by simp [a', o', Act.put], hvr, hr', ⟨hst.os, hst.tape, hst.output, hst.size, fun r hr => hst.frame r hr fun c s hc => hnew c r s hc⟩, fun b r s hb h => ?_⟩
    rcases hst.own b r s (by unfold rho0; rw [if_neg (by omega)]) h with h | ⟨c, t, hc, ht⟩
    · exact h
    · exact (hnew c r t hc ht).elim
theorem body299 : hasBody Tryz.prog 299 = true := by kernel_rfl
set_option maxRecDepth 100000 in
theorem madeRun : callG (CX []) extIsB 1000 299 [] fin 6 .leaf [] = .ok (.ptr 6 (.k 0)) 7 (T.leaf.put 6 (some (.row row299))) [(6, true)] := by kernel_rfl
/-- the book's cells -/
def Book (w : World) (g : Nat) : Prop := ∃ (C : Array Value) (t : TypeId), w.heap[g]? = some (.cells C t (0, 0)) ∧ ∀ i n : Nat, Hu.tab[i]? = some n → C[i]? = some (Value.int .i64 (n : Nat))
theorem Book.below {w w' : World} {g B : Nat} (h : Book w g) (hb : Below B w w') (hg : g < B) : Book w' g := by
  obtain ⟨C, t, h1, h2⟩ := h
  exact ⟨C, t, (hb.block g hg).trans h1, h2⟩
theorem Book.cell {w : World} {g : Nat} (h : Book w g) {i n : Nat} (hi : Hu.tab[i]? = some n) : w.cell? ⟨g, i, none⟩ = some (.int .i64 (n : Nat)) := by
  obtain ⟨C, t, h1, h2⟩ := h
  rw [cell_of_row w g i C t (0, 0) h1]
  exact h2 i n hi
theorem Book.lt {w : World} {g : Nat} (h : Book w g) : g < w.heap.size := by
  obtain ⟨C, t, h1, _⟩ := h
  exact (Array.getElem?_eq_some_iff.1 h1).1
theorem rowNat : row299.all (fun x => match x with | AV.int .i64 (.k (.ofNat _)) => true | _ => false) = true := by decide +kernel
theorem tabLen : Hu.tab.length = 610 := by decide +kernel
theorem VRs_tab {ν : Vl} {ρ : Nm} : ∀ {l : List AV} {vs : List Value}, l.all (fun x => match x with | AV.int .i64 (.k (.ofNat _)) => true | _ => false) = true → VRs ν ρ l vs → ∀ i n : Nat, (l.map Hu.tabA)[i]? = some n → vs[i]? = some (Value.int .i64 (n : Nat))
  | [], vs, _, h, i, n, hi => by simp at hi
  | x :: l, vs, ha, h, i, n, hi => by
    obtain ⟨v, vs', rfl, h1, h2⟩ := h.cons
    rw [List.all_cons, Bool.and_eq_true] at ha
    cases i with
    | zero =>
      have hx := ha.1
      split at hx
      · rename_i q
        have hi : some q = some n := hi
        cases hi
        have h1 : v = .int .i64 (Int.ofNat n) := h1
        subst h1
        rfl
      · cases hx
    | succ i => exact VRs_tab ha.2 h2 i n (by simpa using hi)
theorem made_any (w : World) (h6 : 6 ≤ w.heap.size) : Calls Tryz.prog 299 #[] w fun e w' => ∃ g, e = .returned (.pointer (some ⟨g, 0, none⟩)) ∧ w.heap.size ≤ g ∧ Book w' g ∧ Below w.heap.size w w' := by
  have hv : VRs nu0 (rho0 w) [] [] := VRs.mk0
  refine (calls_leafH okK h6 body299 hv madeRun rfl).mono ?_
  rintro e w' ⟨v, ρ, rfl, hv, hr, hB, hn⟩
  obtain ⟨r, sz, o, h1, h2, rfl⟩ := hv
  have h2 : (0 : Int) = (o : Nat) := h2
  obtain rfl : o = 0 := by omega
  refine ⟨r, rfl, hn 6 r sz (Nat.le_refl _) h1, ?_, hB⟩
  obtain ⟨r', sz', obj, k1, k2, vs, k3, k4, ⟨C, t, fr, t', rfl, hC, hs, hf⟩, k6⟩ := hr.blk 6 (.row row299) (by rw [T.get_put, if_pos rfl])
  rw [h1] at k1
  cases k1
  have hfr : fr = (0, 0) := by first | exact k6 | simpa [unfr] using k6
  subst hfr
  refine ⟨C, t, k2, fun i n hi => ?_⟩
  have := VRs_tab rowNat k3 i n hi
  rw [← Array.getElem?_toList, hC, List.getElem?_append_left (List.getElem?_eq_some_iff.1 this).1]
  exact this
end Go.AM
