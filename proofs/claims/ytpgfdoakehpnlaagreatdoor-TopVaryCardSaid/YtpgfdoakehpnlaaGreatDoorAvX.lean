import Derived.Test.YtpgfdoakehpnlaaGreatDoorAvW
import Derived.Laws.BytesString
import Derived.Laws.Cells
set_option linter.unusedVariables false
set_option linter.unusedSimpArgs false
namespace Go.AM
open Go Go.Proofs Go.ChangeShapes Go.WideShapes Go.ChangeAt Go.RowKit Go.AM.Pi
set_option linter.unusedVariables false
set_option linter.unusedSimpArgs false
/-! # TopVary: huff.Decode -/
def symI (code n : Nat) : Int := match Hu.symOf code n with
  | some c => (c : Int)
  | none => -1
theorem ordFit : (List.range 32).all (fun n => Nat.ble (Hu.start n + Hu.count n) 257) = true := by decide +kernel
theorem tabSmall : Hu.tab.all (fun x => Nat.ble x 4294967295) = true := by decide +kernel
theorem tab_le (i : Nat) : Hu.tab.getD i 0 ≤ 4294967295 := by
  by_cases h : i < 610
  · have := List.all_eq_true.1 tabSmall (Hu.tab.getD i 0) (List.mem_of_getElem? (tab_at h))
    exact Nat.le_of_ble_eq_true this
  · rw [List.getD_eq_getElem?_getD, List.getElem?_eq_none (by rw [tabLen]; omega)]; exact Nat.zero_le _
set_option maxHeartbeats 1000000 in
set_option maxRecDepth 100000 in
theorem symbol_any (g code n : Nat) (hn : n < 32) (hc : code < 4611686018427387904) (w : World) (hb : Book w g) : Calls Tryz.prog 379 #[.pointer (some ⟨g, 0, none⟩), .int .i64 (code : Int), .int .i64 (n : Int)] w fun e w' => e = .returned (.int .i64 (symI code n)) ∧ Below w.heap.size w w' := by
  have c0 : w.cell? ⟨g, n, none⟩ = some (.int .i64 (Hu.first n : Nat)) := hb.cell (tab_at (by omega))
  have c1 : w.cell? ⟨g, 32 + n, none⟩ = some (.int .i64 (Hu.count n : Nat)) := hb.cell (tab_at (by omega))
  have c2 : w.cell? ⟨g, 64 + n, none⟩ = some (.int .i64 (Hu.start n : Nat)) := hb.cell (tab_at (by omega))
  have hfit : Hu.start n + Hu.count n ≤ 257 := Nat.le_of_ble_eq_true (List.all_eq_true.1 ordFit n (List.mem_range.2 hn))
  have l0 : Hu.first n ≤ 4294967295 := tab_le _
  have l1 : Hu.count n ≤ 4294967295 := tab_le _
  have l2 : Hu.start n ≤ 4294967295 := tab_le _
  generalize hres : symI code n = res
  unfold symI Hu.symOf at hres
  have cO : ∀ i, i < 257 → w.cell? ⟨g, 96 + i, none⟩ = some (.int .i64 (Hu.ord i : Nat)) := fun i hi => hb.cell (tab_at (by omega))
  generalize Hu.first n = f at *
  generalize Hu.count n = cn at *
  generalize Hu.start n = st at *
  have hni : (n : Int) < 32 := by omega
  by_cases h1 : f ≤ code ∧ code - f < cn
  · rw [if_pos h1] at hres
    obtain ⟨k, hk⟩ : ∃ k, code = f + k := ⟨code - f, by omega⟩
    subst hk
    have hk2 : k < cn := by omega
    rw [show f + k - f = k by omega] at hres
    have c3 := cO (st + k) (by omega)
    generalize Hu.ord (st + k) = od at *
    subst hres
    clear cO
    go_enter Tryz.func379, Tryz.ntmps379
    go_wp2
    go_quiet (fail)
    go_wp2_with fail
    go_ret
    exact ⟨rfl, below_drewN (Below.refl _ _) _⟩
  · rw [if_neg h1] at hres
    have hres : (-1 : Int) = res := hres
    subst hres
    clear cO
    rcases Nat.lt_or_ge code f with h2 | h2
    · have hki : (code : Int) - (f : Int) < 0 := by omega
      go_enter Tryz.func379, Tryz.ntmps379
      go_wp2
      go_ret
      exact ⟨rfl, Below.refl _ _⟩
    · obtain ⟨k, hk⟩ : ∃ k, code = f + k := ⟨code - f, by omega⟩
      subst hk
      have hk2 : ¬ k < cn := by omega
      have hk3 : (cn : Int) ≤ (k : Int) := by omega
      go_enter Tryz.func379, Tryz.ntmps379
      go_wp2
      go_ret
      exact ⟨rfl, Below.refl _ _⟩
end Go.AM
namespace Go.AM
open Go Go.Proofs Go.ChangeShapes Go.WideShapes Go.ChangeAt Go.RowKit Go.AM.Pi
set_option linter.unusedVariables false
set_option linter.unusedSimpArgs false
/-! # TopVary: huff.Decode, the walk -/
theorem byte_bits (v r : Nat) (hr : r < 8) (rest : List Bool) : (Hu.bitsN v 8 ++ rest)[r]? = some (decide (v / 2 ^ (7 - r) % 2 = 1)) := by
  rcases (show r = 0 ∨ r = 1 ∨ r = 2 ∨ r = 3 ∨ r = 4 ∨ r = 5 ∨ r = 6 ∨ r = 7 by omega) with rfl | rfl | rfl | rfl | rfl | rfl | rfl | rfl <;> simp [Hu.bitsN, Nat.div_div_eq_div_mul]
theorem bits_at : ∀ (P : List Nat) (a r : Nat), a < P.length → r < 8 → (Hu.bitsB P)[8 * a + r]? = some (decide (P.getD a 0 / 2 ^ (7 - r) % 2 = 1))
  | [], a, r, h, _ => by simp at h
  | v :: P, 0, r, _, hr => by
    have : Hu.bitsB (v :: P) = Hu.bitsN v 8 ++ Hu.bitsB P := rfl
    rw [this, Nat.mul_zero, Nat.zero_add, byte_bits v r hr]; rfl
  | v :: P, a+1, r, h, hr => by
    have : Hu.bitsB (v :: P) = Hu.bitsN v 8 ++ Hu.bitsB P := rfl
    rw [this, List.getElem?_append_right (by rw [Hu.bitsN_len]; omega), Hu.bitsN_len, show 8 * (a + 1) + r - 8 = 8 * a + r by omega, bits_at P a r (by simpa using h) hr]
    simp
theorem i64_or_nat (a b : Nat) (ha : a < 4611686018427387904) (hb : b < 4611686018427387904) : bits .or .i64 (a : Int) (b : Int) = ((a ||| b : Nat) : Int) := by
  have e : ∀ c : Nat, c < 4611686018427387904 → (BitVec.ofInt 64 (c : Int)).toNat = c := fun c hc => by rw [BitVec.ofInt_natCast, BitVec.toNat_ofNat]; exact Nat.mod_eq_of_lt (by omega)
  have h62 : (4611686018427387904 : Nat) = 2 ^ 62 := by decide
  have hx : a ||| b < 2 ^ 62 := Nat.or_lt_two_pow (by omega) (by omega)
  show IntKind.i64.wrap ((BitVec.ofInt 64 (a : Int) ||| BitVec.ofInt 64 (b : Int)).toNat : Int) = _
  rw [BitVec.toNat_or, e a ha, e b hb, IntKind.wrap_i64]
  omega
theorem bit_step (code p r : Nat) (hr : r < 8) (hp : p < 256) (hc : code < 1073741824) :
    bits .or .i64 ((code : Int) * 2) (wrap64 (bits .and .u8 ((p : Int) / 2 ^ (7 - r % 8)) 1)) = ((2 * code + Hu.bitN (decide (p / 2 ^ (7 - r) % 2 = 1)) : Nat) : Int) := by
  rw [Nat.mod_eq_of_lt hr]
  have hd : p / 2 ^ (7 - r) < 256 := Nat.lt_of_le_of_lt (Nat.div_le_self _ _) hp
  have e1 : ((p : Int) / 2 ^ (7 - r)) = ((p / 2 ^ (7 - r) : Nat) : Int) := by rw [Int.natCast_ediv, Int.natCast_pow]; rfl
  have e2 : bits .and .u8 ((p : Int) / 2 ^ (7 - r)) 1 = ((p / 2 ^ (7 - r) % 2 : Nat) : Int) := by
    rw [e1, show (1 : Int) = ((1 : Nat) : Int) from rfl, u8_and_nat _ _ hd (by decide), Nat.and_one_is_mod]
  have hm : p / 2 ^ (7 - r) % 2 < 2 := Nat.mod_lt _ (by decide)
  have e4 : Hu.bitN (decide (p / 2 ^ (7 - r) % 2 = 1)) = p / 2 ^ (7 - r) % 2 := by
    unfold Hu.bitN
    rcases (show p / 2 ^ (7 - r) % 2 = 0 ∨ p / 2 ^ (7 - r) % 2 = 1 by omega) with h | h <;> rw [h] <;> simp
  rw [e2, e4]
  generalize p / 2 ^ (7 - r) % 2 = x at *
  rw [IntWalk.wrap64_in _ (by omega), show (code : Int) * 2 = ((2 ^ 1 * code : Nat) : Int) by push_cast; omega, i64_or_nat _ _ (by omega) (by omega), ← Nat.two_pow_add_eq_or_of_lt (by omega)]
theorem ordSmall : (List.range 257).all (fun k => Nat.ble (Hu.ord k) 256) = true := by decide +kernel
theorem sym_le {code n c : Nat} (hn : n < 32) (h : Hu.symOf code n = some c) : c ≤ 256 := by
  unfold Hu.symOf at h
  have hfit : Hu.start n + Hu.count n ≤ 257 := Nat.le_of_ble_eq_true (List.all_eq_true.1 ordFit n (List.mem_range.2 hn))
  split at h
  · cases h
    exact Nat.le_of_ble_eq_true (List.all_eq_true.1 ordSmall _ (List.mem_range.2 (by omega)))
  · cases h
theorem ints_getD (l : List Nat) (i : Nat) : (ints l).getD i 0 = ((l.getD i 0 : Nat) : Int) := by
  simp only [ints, List.getD_eq_getElem?_getD, List.getElem?_map]
  cases l[i]? <;> rfl
theorem ints_len (l : List Nat) : (ints l).length = l.length := by simp [ints]
def strOf (l : List Nat) : ByteArray := l.foldl (fun r n => r.push (UInt8.ofNat n)) ByteArray.empty
theorem str_go : ∀ (l : List Nat) (r : ByteArray), (l.foldl (fun r n => r.push (UInt8.ofNat n)) r).data.toList = r.data.toList ++ l.map UInt8.ofNat
  | [], r => by simp
  | n :: l, r => by
    rw [List.foldl_cons, str_go l]
    simp [ByteArray.push]
theorem strOf_nb (s : ByteArray) : strOf (nb s) = s := by
  have h : (strOf (nb s)).data.toList = s.data.toList := by
    unfold strOf
    rw [str_go]
    have e : (ByteArray.empty).data.toList = [] := rfl
    rw [e, List.nil_append]
    unfold nb
    rw [List.map_map]
    have : (UInt8.ofNat ∘ UInt8.toNat) = id := by funext b; simp
    rw [this, List.map_id]
  obtain ⟨d⟩ := s
  generalize strOf (nb ⟨d⟩) = q at *
  obtain ⟨e⟩ := q
  have : e.toList = d.toList := h
  rw [Array.ext' this]
theorem fold_ints : ∀ (l : List Nat) (r : ByteArray), (ints l).foldl (fun r n => r.push (UInt8.ofNat n.toNat)) r = l.foldl (fun r n => r.push (UInt8.ofNat n)) r
  | [], _ => rfl
  | n :: l, r => by
    show (ints l).foldl _ (r.push (UInt8.ofNat (Int.ofNat n).toNat)) = l.foldl _ (r.push (UInt8.ofNat n))
    rw [fold_ints l]; rfl
theorem run_bs_string {w : World} {v : Value} {O : List Nat} (h : BS w v (ints O)) : (convert 81 9 v).run Tryz.prog w = .ok (.string (strOf O)) w := by
  obtain ⟨A, cap, rfl, h1, h2, h3⟩ := h
  have hb : BS w (.slice A (ints O).length cap) (ints O) := ⟨A, cap, rfl, h1, h2, h3⟩
  rw [run_convert_bytes_string _ 81 9 5 _ _ _ Tryz.underlying81 Tryz.underlying5 Tryz.underlying9]
  cases A with
  | none =>
    have h0 : (ints O).length = 0 := (bs_src hb).2.1 rfl
    have hO : O = [] := List.length_eq_zero_iff.1 (by rw [ints_len] at h0; exact h0)
    subst hO
    rfl
  | some a =>
    have hl := run_loadCells_list (P := Tryz.prog) (w := w) a (bv (ints O)) (fun j u hj => (bs_src hb).2.2 a rfl j u hj)
    rw [bv_len] at hl
    rw [run_bytesToString w a _ cap (ints O) hl, fold_ints]
    rfl
theorem run_own_string {w : World} {base n : Nat} {v : Value} {O : List Nat} (h : w.ownsRow base 5 1 v n (bv (ints O))) (hn : n = O.length) : (convert 81 9 v).run Tryz.prog w = .ok (.string (strOf O)) w :=
  run_bs_string (bs_own h (by rw [ints_len]; exact hn))
set_option maxHeartbeats 1000000 in
set_option maxRecDepth 100000 in
theorem decode_any (v : Value) (P S : List Nat) (hP : P.length ≤ 100000) (w : World) (h6 : 6 ≤ w.heap.size) (hR : BS w v (ints P)) (hPb : ∀ b ∈ P, b < 256) {k : Nat} (hk : k < 8) (hW : Hu.Way ⟨0, 0, []⟩ (Hu.bitsB P) ⟨2 ^ k - 1, k, S⟩) :
    Calls Tryz.prog 370 #[v] w fun e w' => e = .returned (.tuple #[.string (strOf S), .int .i64 0]) ∧ Below w.heap.size w w' := by
  obtain ⟨i0, hi, hz0, hz1, hz2⟩ := info_parts info5
  obtain ⟨A, cap, rfl, hlc, hcm, hcell⟩ := hR
  have HC := Lib.hid hcell
  clear hcell
  rw [ints_len] at *
  have hPl : P.length ≤ cap := hlc
  go_enter Tryz.func370, Tryz.ntmps370
  go_upto_region 4 with (go_at_call 299; refine (made_any _ h6).mono ?_; rintro e w1 ⟨g, rfl, hg, hBk, hB1⟩)
  have hs1 := hB1.size
  have HBK := Lib.hid hBk
  clear hBk
  go_wp2_with fail
  have hown0 : w1.ownsRow w1.heap.size 5 1 (.slice none 0 0) 0 (bv (ints [])) := ⟨rfl, .inl ⟨rfl, rfl⟩⟩
  go_loopw [14, 6, 7, 5] (fun s14 s6 s7 s5 wr => ∃ (i code n : Nat) (out : List Nat), i ≤ 8 * P.length ∧ s14 = .int .i64 i ∧ s6 = .int .i64 code ∧ s7 = .int .i64 n ∧ out.length ≤ i ∧ n ≤ i ∧
    Hid (Hu.Way ⟨code, n, out⟩ ((Hu.bitsB P).drop i) ⟨2 ^ k - 1, k, S⟩) ∧ Hid (wr.ownsRow w1.heap.size 5 1 s5 out.length (bv (ints out))) ∧ Hid (Book wr g) ∧ Below w.heap.size w wr ∧ w1.heap.size ≤ wr.heap.size) (fun s14 _ _ _ _ => 8 * P.length - (intOf s14).toNat)
  case atStart => exact ⟨0, 0, 0, [], Nat.zero_le _, rfl, rfl, rfl, Nat.le_refl _, Nat.le_refl _, Lib.hid (by simpa using hW), Lib.hid hown0, HBK, hB1, Nat.le_refl _⟩
  case round =>
    obtain ⟨i, code, n, out, hi8, rfl, rfl, rfl, hol, hni, hw, hO, hbk, hB, h1r⟩ := hrel
    have hwr := hB.size
    by_cases hlt : i < 8 * P.length
    · obtain ⟨a, r, hr, rfl⟩ : ∃ a r, r < 8 ∧ i = 8 * a + r := ⟨i / 8, i % 8, by omega, by omega⟩
      have ha : a < P.length := by omega
      have hdr : (Hu.bitsB P).drop (8 * a + r) = decide (P.getD a 0 / 2 ^ (7 - r) % 2 = 1) :: (Hu.bitsB P).drop (8 * a + r + 1) := by
        have hlen : 8 * a + r < (Hu.bitsB P).length := by rw [Hu.bitsB_len]; exact hlt
        have h2 := bits_at P a r ha hr
        rw [List.getElem?_eq_getElem hlen] at h2
        rw [List.drop_eq_getElem_cons hlen, Option.some.inj h2]
      have hw2 := hw.out
      rw [hdr] at hw2
      obtain ⟨⟨hn30, hc30, h256⟩, hw3⟩ := hw2
      have hn30 : n < 30 := hn30
      have hc30 : code < 1073741824 := hc30
      obtain ⟨b, off, rfl, gb, q⟩ := HC.out (by omega)
      have e0 : wr.cell? ⟨b, off + (8 * a + r) / 8, none⟩ = some (.int .u8 ((P.getD a 0 : Nat) : Int)) := by
        rw [show (8 * a + r) / 8 = a by omega, hB.cell (p := ⟨b, off + a, none⟩) gb, ← ints_getD]; simpa using q a 0 ha (by omega)
      have hb256 : P.getD a 0 < 256 := by
        rw [List.getD_eq_getElem?_getD, List.getElem?_eq_getElem ha]; exact hPb _ (List.getElem_mem ha)
      clear q
      generalize P.getD a 0 = p at *
      have hbs := bit_step code p r hr hb256 hc30
      have hst : Hu.step ⟨code, n, out⟩ (decide (p / 2 ^ (7 - r) % 2 = 1)) = match Hu.symOf (2 * code + Hu.bitN (decide (p / 2 ^ (7 - r) % 2 = 1))) (n + 1) with
        | some c => ⟨0, 0, out ++ [c]⟩
        | none => ⟨2 * code + Hu.bitN (decide (p / 2 ^ (7 - r) % 2 = 1)), n + 1, out⟩ := rfl
      rw [hst] at hw3
      have h256' : Hu.symOf (2 * code + Hu.bitN (decide (p / 2 ^ (7 - r) % 2 = 1))) (n + 1) ≠ some 256 := h256
      have hbn : Hu.bitN (decide (p / 2 ^ (7 - r) % 2 = 1)) ≤ 1 := by unfold Hu.bitN; split <;> omega
      have hcd : 2 * code + Hu.bitN (decide (p / 2 ^ (7 - r) % 2 = 1)) < 4611686018427387904 := by omega
      clear hst h256 hdr hw
      generalize 2 * code + Hu.bitN (decide (p / 2 ^ (7 - r) % 2 = 1)) = code2 at *
      clear hbn
      have hsym := fun w1 h => symbol_any g code2 (n + 1) (by omega) hcd w1 h
      have hni2 : ((n + 1 : Nat) : Int) = (n : Int) + 1 := by omega
      rw [hni2] at hsym
      clear hni2
      rcases hs : Hu.symOf code2 (n + 1) with _ | c
      · rw [hs] at hw3
        have hsym2 : ∀ w1, Book w1 g → Calls Tryz.prog 379 #[.pointer (some ⟨g, 0, none⟩), .int .i64 (code2 : Int), .int .i64 ((n : Int) + 1)] w1 fun e w' => e = .returned (.int .i64 (-1)) ∧ Below w1.heap.size w1 w' := fun w1 h => by
          have := hsym w1 h; unfold symI at this; rw [hs] at this; exact this
        clear hsym
        go_wp2_with (go_at_call 379; refine (hsym2 _ hbk.out).mono ?_; rintro e w2 ⟨rfl, hB2⟩)
        go_roundw
        case rel => exact ⟨8 * a + r + 1, code2, n + 1, out, by omega, by go_num, rfl, by go_num, by omega, by omega, Lib.hid hw3, Lib.hid (own_below hO.out hB2), Lib.hid (hbk.out.below hB2 hbk.out.lt), hB.trans (hB2.mono hwr), Nat.le_trans h1r hB2.size⟩
        case measure => simp [intOf]; omega
      · rw [hs] at hw3 h256'
        have hc256 : c < 256 := by
          have := sym_le (by omega) hs
          have : c ≠ 256 := fun e => h256' (by rw [e])
          omega
        have hsym2 : ∀ w1, Book w1 g → Calls Tryz.prog 379 #[.pointer (some ⟨g, 0, none⟩), .int .i64 (code2 : Int), .int .i64 ((n : Int) + 1)] w1 fun e w' => e = .returned (.int .i64 (c : Int)) ∧ Below w1.heap.size w1 w' := fun w1 h => by
          have := hsym w1 h; unfold symI at this; rw [hs] at this; exact this
        have hc0 : (0 : Int) ≤ (c : Int) := by omega
        have hcne : ¬ (c : Int) = 256 := by omega
        have hwc : IntKind.u8.wrap (c : Int) = (c : Int) := by rw [wrap_u8_is]; omega
        clear hsym
        go_upto_region 10 with (go_at_call 379; refine (hsym2 _ hbk.out).mono ?_; rintro e w2 ⟨rfl, hB2⟩)
        have hO2 := own_below hO.out hB2
        have hbk2 := hbk.out.below hB2 hbk.out.lt
        have hN := World.news_of_block (w := w2.alloc (.cells #[.int .u8 (c : Int)] 5)) (B := w2.heap.size) (heap_alloc_new w2 _)
        have HN := Lib.hid hN
        have HOa := Lib.hid (hO2.alloc (.cells #[.int .u8 (c : Int)] 5))
        have h12 : w1.heap.size ≤ w2.heap.size := Nat.le_trans h1r hB2.size
        clear hN hO2
        go_wp2_with (first
          | (at_builtin
             refine wpList_append_src rfl (.tmp 42) (.tmp 45) 81 rfl w1.heap.size 5 i0 _ 1 1 Tryz.underlying81 hi hz0 hz1 hz2 rfl (by decide) _ out.length (bv (ints out)) rfl HOa.out (some ⟨w2.heap.size, 0, none⟩) 1 1 (bv [(c : Int)]) rfl (by simp) rfl (fun ad had j u hu => by cases had; exact HN.out j u hu) (bv_one _) (by unfold maxLen; omega) (by omega) (by go_size) ?_
             intro r2 w5 hown hg5))
        have hB02 : Below w.heap.size w w2 := hB.trans (hB2.mono hwr)
        have hw5 : Below w.heap.size w w5 := Below.grown (w := _) (by go_grown) hg5 (by go_size) (fun g hg => Nat.le_trans hs1 (HOa.out.lt g hg).1)
        have hbk5 : Book w5 g := (hbk2.alloc _).grown hg5 (fun e => by have := (HOa.out.lt g e.symm).1; have := HBK.out.lt; omega)
        rw [ints_snoc] at hown
        go_roundw
        case rel => exact ⟨8 * a + r + 1, 0, 0, out ++ [c], by omega, by go_num, rfl, rfl, by simp; omega, by omega, Lib.hid hw3, Lib.hid (by simpa using hown), Lib.hid hbk5, hw5, by have := hg5.size; simp only [World.size_alloc] at this; omega⟩
        case measure => simp [intOf]; omega
    · obtain rfl : i = 8 * P.length := by omega
      have hw2 := hw.out
      rw [List.drop_eq_nil_of_le (by rw [Hu.bitsB_len]; exact Nat.le_refl _)] at hw2
      have hw2 : (⟨code, n, out⟩ : Hu.St) = ⟨2 ^ k - 1, k, S⟩ := hw2
      injection hw2 with z1 z2 z3
      subst z1; subst z2; subst z3
      have hstr := run_own_string hO.out rfl
      clear hw hW
      rcases (show n = 0 ∨ n = 1 ∨ n = 2 ∨ n = 3 ∨ n = 4 ∨ n = 5 ∨ n = 6 ∨ n = 7 by omega) with rfl | rfl | rfl | rfl | rfl | rfl | rfl | rfl
      all_goals
        simp only [show (2 : Nat) ^ 0 - 1 = 0 from rfl, show (2 : Nat) ^ 1 - 1 = 1 from rfl, show (2 : Nat) ^ 2 - 1 = 3 from rfl, show (2 : Nat) ^ 3 - 1 = 7 from rfl, show (2 : Nat) ^ 4 - 1 = 15 from rfl, show (2 : Nat) ^ 5 - 1 = 31 from rfl, show (2 : Nat) ^ 6 - 1 = 63 from rfl, show (2 : Nat) ^ 7 - 1 = 127 from rfl]
        go_wp2_with fail
        go_returns
        exact ⟨rfl, hB⟩
end Go.AM
