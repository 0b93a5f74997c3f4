import Derived.Test.YtpgfdoakehpnlaaGreatDoorAvV
import Derived.Laws.Bits64
set_option linter.unusedVariables false
set_option linter.unusedSimpArgs false
namespace Go.AM
open Go Go.Proofs Go.ChangeShapes Go.WideShapes Go.ChangeAt Go.RowKit Go.AM.Pi
set_option linter.unusedVariables false
set_option linter.unusedSimpArgs false
/-! # TopVary: huff.Encode -/
theorem wrap_shl (left q : Nat) : IntKind.u64.wrap ((left : Int) * 2 ^ q) = ((left * 2 ^ q % 18446744073709551616 : Nat) : Int) := by
  rw [IntKind.wrap_u64, Int.natCast_emod, Int.natCast_mul, Int.natCast_pow]; rfl
theorem wrap_nat {n : Nat} (h : n < 18446744073709551616) : IntKind.u64.wrap (n : Int) = (n : Int) := by rw [IntKind.wrap_u64]; omega
theorem own_below {w w' : World} {base : Nat} {e : TypeId} {size : Nat} {v : Value} {n : Nat} {xs : List Value} (h : w.ownsRow base e size v n xs) (hb : Below w.heap.size w w') : w'.ownsRow base e size v n xs :=
  h.kept (row := none) ⟨hb.os, hb.tape, hb.output, hb.size, fun k hk _ => hb.block k hk⟩ (by rcases v.ownBlock with _ | q; exact .inl rfl; exact .inr (by simp))
theorem Book.grown {w w' : World} {g : Nat} {row : Option Nat} (h : Book w g) (hg : w.grownBy w' row) (hne : some g ≠ row) : Book w' g := by
  obtain ⟨C, t, h1, h2⟩ := h
  exact ⟨C, t, (hg.block g (Array.getElem?_eq_some_iff.1 h1).1 hne).trans h1, h2⟩
theorem Book.alloc {w : World} {g : Nat} (h : Book w g) (o : Obj) : Book (w.alloc o) g := by
  obtain ⟨C, t, h1, h2⟩ := h
  exact ⟨C, t, (Below.heap_alloc w o g (Array.getElem?_eq_some_iff.1 h1).1).trans h1, h2⟩
theorem own_base {w : World} {base base' : Nat} {e : TypeId} {size : Nat} {v : Value} {n : Nat} {xs : List Value} (h : w.ownsRow base' e size v n xs) (hb : base ≤ base') : w.ownsRow base e size v n xs := by
  rcases h with ⟨h0, h1 | ⟨g, cap, cur, q1, q2, q3⟩⟩
  · exact ⟨h0, .inl h1⟩
  · exact ⟨h0, .inr ⟨g, cap, cur, q1, Nat.le_trans hb q2, q3⟩⟩
theorem ints_snoc (l : List Nat) (y : Nat) : bv (ints l) ++ bv [(y : Int)] = bv (ints (l ++ [y])) := by
  rw [bv_app]; simp only [ints, List.map_append, List.map_cons, List.map_nil]; rfl
theorem last_byte {left n : Nat} {pend : List Bool} (hp : pend.length = n) (h0 : 0 < n) (hn : n < 8) (hv : left % 2 ^ n = Hu.val pend) :
    bits .or .u8 (IntKind.u64.wrap ((left : Int) * 2 ^ (8 - n)) % 256) (255 / 2 ^ n) = ((Hu.val (pend ++ List.replicate (8 - n) true) : Nat) : Int) ∧ Hu.val (pend ++ List.replicate (8 - n) true) < 256 := by
  obtain ⟨h1, h2⟩ := Hu.end_step hp h0 hn hv
  have h64 : (2 : Nat) ^ 64 = 18446744073709551616 := by decide
  rw [h64] at h1
  refine ⟨?_, h2⟩
  have e1 : ((IntKind.u64.wrap ((left : Int) * 2 ^ (8 - n))) % 256 : Int) = ((left * 2 ^ (8 - n) % 18446744073709551616 % 256 : Nat) : Int) := by rw [wrap_shl, Int.natCast_emod _ 256]; rfl
  have e2 : ((255 : Int) / 2 ^ n) = ((255 / 2 ^ n : Nat) : Int) := by rw [Int.natCast_ediv, Int.natCast_pow]; rfl
  rw [e1, e2, u8_or_nat _ _ (Nat.mod_lt _ (by decide)) (Nat.lt_of_le_of_lt (Nat.div_le_self _ _) (by decide)), h1]
theorem bitsB_snoc (O : List Nat) (y : Nat) : Hu.bitsB (O ++ [y]) = Hu.bitsB O ++ Hu.bitsN y 8 := by simp only [Hu.bitsB, List.flatMap_append, List.flatMap_cons, List.flatMap_nil, List.append_nil]
theorem tab_at {i : Nat} (h : i < 610) : Hu.tab[i]? = some (Hu.tab.getD i 0) := by
  rw [List.getD_eq_getElem?_getD, List.getElem?_eq_getElem (by rw [tabLen]; exact h)]; rfl
set_option maxHeartbeats 1000000 in
set_option maxRecDepth 100000 in
theorem encode_any (s : ByteArray) (hs : s.size ≤ 65536) (w : World) (h6 : 6 ≤ w.heap.size) : Calls Tryz.prog 257 #[.string s] w fun e w' => ∃ r, e = .returned r ∧ w'.ownsRow w.heap.size 5 1 r (Hu.enc (nb s)).length (bv (ints (Hu.enc (nb s)))) ∧ Below w.heap.size w w' := by
  obtain ⟨i0, hi, hz0, hz1, hz2⟩ := info_parts info5
  generalize hres : Hu.enc (nb s) = res
  have hsize : Hu.size (nb s) ≤ 300000 := by have := bl_le s s.size (Nat.le_refl _); unfold Hu.size; rw [← bl_all]; omega
  generalize hsz : Hu.size (nb s) = sz at *
  have hSz := fun w1 h => size_any s hs w1 h
  rw [hsz] at hSz
  go_enter Tryz.func257, Tryz.ntmps257
  go_upto_region 2 with (go_at_call 299; refine (made_any _ h6).mono ?_; rintro e w1 ⟨g, rfl, hg, hBk, hB1⟩)
  have hs1 := hB1.size
  go_upto_region 3 with (first
    | (go_at_call 256; refine (hSz _ (by omega)).mono ?_; rintro e w2 ⟨rfl, hB2⟩)
    | (refine wpList_make_own _ rfl (.const (.int .i64 0)) (.tmp 11) 81 rfl w2.heap.size 5 i0 _ 1 Tryz.underlying81 hi hz0 hz1 .i64 .i64 _ sz rfl rfl (by omega) (by rw [hz2]; omega) (by unfold maxLen; omega) (by go_size) ?_
       intro w3 hown hg3))
  have hs2 := hB2.size
  have hgw : g < w2.heap.size := Nat.lt_of_lt_of_le hBk.lt hs2
  have hww : w.heap.size ≤ w2.heap.size := Nat.le_trans hs1 hs2
  have hB3 : Below w.heap.size w w3 := Below.grown (w := _) (hB1.trans (hB2.mono (by omega))) hg3 (by omega) (fun g hg => by cases hg)
  have hBk3 : Book w3 g := by
    have h2 := hBk.below hB2 hBk.lt
    obtain ⟨C, t, q1, q2⟩ := h2
    exact ⟨C, t, (hg3.block g (by have := hBk.lt; omega) (by simp)).trans q1, q2⟩
  have hs3 := hB3.size
  have hs23 : w2.heap.size ≤ w3.heap.size := by have := hg3.size; simpa using this
  have HO := Lib.hid hown
  have HBK := Lib.hid hBk3
  clear hown hg3 hB2 hBk hBk3 hB1 hSz
  have hglt := HBK.out.lt
  go_wp2_with fail
  go_loopw [15, 5, 6, 4] (fun s15 s5 s6 s4 wr => ∃ (k : Nat) (left : Nat) (O : List Nat) (pend : List Bool), k ≤ s.size ∧ s15 = .int .i64 k ∧ s5 = .int .u64 left ∧ s6 = .int .i64 pend.length ∧ pend.length < 8 ∧ left < 18446744073709551616 ∧
    Hid (wr.ownsRow w2.heap.size 5 1 s4 O.length (bv (ints O))) ∧ Hid (Hu.bitsB O ++ pend = Hu.bits ((nb s).take k)) ∧ Hid (∀ b ∈ O, b < 256) ∧ Hid (left % 2 ^ pend.length = Hu.val pend) ∧ Hid (Book wr g) ∧ Below w.heap.size w wr ∧ w2.heap.size ≤ wr.heap.size) (fun s15 _ _ _ _ => s.size - (intOf s15).toNat)
  case atStart => exact ⟨0, 0, [], [], Nat.zero_le _, rfl, rfl, rfl, by decide, by decide, HO, Lib.hid (by simp [Hu.bitsB, Hu.bits]), Lib.hid (by simp), Lib.hid (by rfl), HBK, hB3, hs23⟩
  case round =>
    obtain ⟨k, left, O, pend, hk, rfl, rfl, rfl, hp, hl, hO, hE, hOb, hv, hbk, hB, h2r⟩ := hrel
    have hwr := hB.size
    by_cases hlt : k < s.size
    · have hki : (k : Int) < (s.size : Int) := by omega
      have hk0 : 0 ≤ (k : Int) := by omega
      obtain ⟨c, hc⟩ : ∃ c, (s[k]'hlt).toNat = c := ⟨_, rfl⟩
      have ek : ((s[k]'hlt).toNat : Int) = (c : Int) := by rw [hc]
      have hc2 : c < 256 := by rw [← hc]; exact (s[k]'hlt).toNat_lt
      have hL := fun w1 h => length_any c hc2 w1 h
      obtain ⟨q1, q2, q3, q4, q5⟩ := Hu.okC_of hc2
      generalize hq : Hu.lenOf c = q at *
      generalize hpl : pend.length = n at *
      go_upto_region 8 with (go_at_call 298; refine (hL _ (by omega)).mono ?_; rintro e w4 ⟨rfl, hB4⟩)
      have hs4 := hB4.size
      have hbk4 : Book w4 g := hbk.out.below hB4 (by have := hbk.out.lt; omega)
      have hcell : w4.cell? ⟨g, 353 + c, none⟩ = some (.int .i64 (Hu.codeOf c : Nat)) := hbk4.cell (tab_at (by omega))
      clear hL
      go_cut [5] (fun s5 wx => ∃ l2 : Nat, s5 = .int .u64 l2 ∧ l2 < 18446744073709551616 ∧ Hid (l2 % 2 ^ (n + q) = Hu.val (pend ++ Hu.bitsOf c)) ∧ Below w4.heap.size w4 wx)
      case first =>
        go_quiet (fail)
        have hcl : Hu.codeOf c < 18446744073709551616 := Nat.lt_of_lt_of_le q4 (Nat.le_trans (Nat.pow_le_pow_right (by decide) q2) (by decide))
        have hst := Hu.shl_step (left := left) (n := n) (q := q) (code := Hu.codeOf c) hpl (by rw [bitsOf_len, hq]) hv.out (by unfold Hu.bitsOf; rw [hq]; exact Hu.val_bitsN _ _ q4) q4 (by omega)
        have h64 : (2 : Nat) ^ 64 = 18446744073709551616 := by decide
        rw [h64] at hst
        have hor : bits .or .u64 (IntKind.u64.wrap ((left : Int) * 2 ^ q)) (IntKind.u64.wrap (Hu.codeOf c : Nat)) = ((left * 2 ^ q % 18446744073709551616 ||| Hu.codeOf c : Nat) : Int) := by
          rw [wrap_shl, wrap_nat hcl]
          exact u64_or_nat _ _ (Nat.mod_lt _ (by decide)) hcl
        go_wp2_with fail
        go_meet
        exact ⟨_, rfl, hst.1, Lib.hid hst.2, below_drewN (Below.refl _ _) _⟩
      case rest =>
        obtain ⟨l2, rfl, hl2, hv2, hB5⟩ := hcut
        have hB6 : Below wr.heap.size wr wc := hB4.trans (hB5.mono (by omega))
        have HO5 := Lib.hid (own_below hO.out hB6)
        have hbk5 := Lib.hid (hbk.out.below hB6 hbk.out.lt)
        have hB7 := hB.trans (hB6.mono hwr)
        have hs7 := hB7.size
        have h2c : w2.heap.size ≤ wc.heap.size := Nat.le_trans h2r hB6.size
        have hE5 : Hid (Hu.bitsB O ++ (pend ++ Hu.bitsOf c) = Hu.bits ((nb s).take (k + 1))) := Lib.hid (by rw [nb_take s k hlt, bits_snoc, hc, ← List.append_assoc, hE.out])
        have hpl5 : (pend ++ Hu.bitsOf c).length = n + q := by rw [List.length_append, hpl, bitsOf_len, hq]
        rw [← hpl5] at hv2
        have hq37 : (pend ++ Hu.bitsOf c).length ≤ 37 := by omega
        have hnq : ((n : Int) + (q : Int)) = (((pend ++ Hu.bitsOf c).length : Nat) : Int) := by omega
        generalize pend ++ Hu.bitsOf c = pend5 at *
        clear hO hbk hB4 hB5 hB6 hbk4 hcell hE hv hwr hpl5 ek
        go_wp2_with fail
        go_loopw [6, 4] (fun s6 s4 wz => ∃ (O2 : List Nat) (pend2 : List Bool), s6 = .int .i64 pend2.length ∧ pend2.length ≤ 37 ∧ Hid (wz.ownsRow w2.heap.size 5 1 s4 O2.length (bv (ints O2))) ∧ Hid (Hu.bitsB O2 ++ pend2 = Hu.bits ((nb s).take (k + 1))) ∧
          Hid (∀ b ∈ O2, b < 256) ∧ Hid (l2 % 2 ^ pend2.length = Hu.val pend2) ∧ Hid (Book wz g) ∧ Below w.heap.size w wz ∧ w2.heap.size ≤ wz.heap.size) (fun s6 _ _ => (intOf s6).toNat)
        case atStart => exact ⟨O, pend5, rfl, hq37, HO5, hE5, hOb, hv2, hbk5, hB7, h2c⟩
        case round =>
          obtain ⟨O2, pend2, rfl, hp2, hO2, hE2, hOb2, hv2, hbk2, hB2, h2r⟩ := hrel
          have hwz := hB2.size
          by_cases h8 : 8 ≤ pend2.length
          · obtain ⟨m, hm⟩ : ∃ m, pend2.length = m + 8 := ⟨pend2.length - 8, by omega⟩
            have hst := Hu.shr_step (left := l2) (m := m) rfl hm hv2.out
            have hm29 : m ≤ 29 := by omega
            have hpi : ((pend2.length : Nat) : Int) = (m : Int) + 8 := by omega
            have hy : ((l2 : Int) / 2 ^ m % 256) = ((Hu.val (pend2.take 8) : Nat) : Int) := by rw [← hst.1, Int.natCast_emod, Int.natCast_ediv, Int.natCast_pow]; rfl
            have hy2 : Hu.val (pend2.take 8) < 256 := by rw [← hst.1]; exact Nat.mod_lt _ (by decide)
            have hv3 := hst.2
            have hE3 : Hu.bitsB (O2 ++ [Hu.val (pend2.take 8)]) ++ pend2.drop 8 = Hu.bits ((nb s).take (k + 1)) := by
              have e1 : Hu.bitsB (O2 ++ [Hu.val (pend2.take 8)]) = Hu.bitsB O2 ++ pend2.take 8 := by
                simp only [Hu.bitsB, List.flatMap_append, List.flatMap_cons, List.flatMap_nil, List.append_nil]
                rw [Hu.bitsN_val 8 _ (by rw [List.length_take]; omega)]
              rw [e1, List.append_assoc, List.take_append_drop]; exact hE2.out
            have hl3 : (pend2.drop 8).length = m := by rw [List.length_drop]; omega
            rw [← hl3] at hv3
            have hOl : O2.length ≤ 300000 := by
              have h1 := congrArg List.length hE2.out
              rw [List.length_append, Hu.bitsB_len] at h1
              have h2 := bl_le s (k + 1) hlt
              unfold bl at h2
              omega
            generalize pend2.drop 8 = pend3 at *
            generalize Hu.val (pend2.take 8) = y at *
            have hm8 : 8 ≤ m + 8 := by omega
            have hN := World.news_of_block (w := wr.alloc (.cells #[.int .u8 (y : Int)] 5)) (B := wr.heap.size) (heap_alloc_new wr _)
            have HN := Lib.hid hN
            have HOa := Lib.hid (hO2.out.alloc (.cells #[.int .u8 (y : Int)] 5))
            clear hN hst hv2 hE2
            go_wp2_with (first
              | (at_builtin
                 refine wpList_append_src rfl (.tmp 44) (.tmp 50) 81 rfl w2.heap.size 5 i0 _ 1 1 Tryz.underlying81 hi hz0 hz1 hz2 rfl (by decide) _ O2.length (bv (ints O2)) rfl HOa.out (some ⟨wr.heap.size, 0, none⟩) 1 1 (bv [(y : Int)]) rfl (by simp) rfl (fun ad had j u hu => by cases had; exact HN.out j u hu) (bv_one _) (by unfold maxLen; omega) (by omega) (by go_size) ?_
                 intro r2 w5 hown hg5))
            have hw5 : Below w.heap.size w w5 := Below.grown (w := _) (by go_grown) hg5 (by go_size) (fun g hg => Nat.le_trans hww (HOa.out.lt g hg).1)
            have hbk5 : Book w5 g := (hbk2.out.alloc _).grown hg5 (fun e => by have := (HOa.out.lt g e.symm).1; omega)
            rw [ints_snoc] at hown
            have hOb3 : ∀ b ∈ O2 ++ [y], b < 256 := fun b hb => by
              rcases List.mem_append.1 hb with h | h
              · exact hOb2.out b h
              · rw [List.mem_singleton.1 h]; exact hy2
            refine ⟨⟨O2 ++ [y], pend3, by rw [hl3], by omega, Lib.hid (by simpa using hown), Lib.hid hE3, Lib.hid hOb3, Lib.hid hv3, Lib.hid hbk5, hw5, ?_⟩, ?_⟩
            · have := hg5.size; simp only [World.size_alloc] at this; omega
            · simp [intOf]; omega
          · have h8' : ¬ (8 : Int) ≤ (pend2.length : Int) := by omega
            go_wp2_with fail
            exact ⟨⟨k + 1, l2, O2, pend2, by omega, by go_num, rfl, rfl, by omega, hl2, hO2, hE2, hOb2, hv2, hbk2, hB2, h2r⟩, by simp [intOf]; omega⟩
    · obtain rfl : k = s.size := by omega
      have hE2 : Hu.bitsB O ++ pend = Hu.bits (nb s) := by have := hE.out; rwa [List.take_of_length_le (by rw [nb_len]; exact Nat.le_refl _)] at this
      have hOl : O.length ≤ 300000 := by
        have h1 := congrArg List.length hE2
        rw [List.length_append, Hu.bitsB_len] at h1
        have h2 := bl_le s s.size (Nat.le_refl _)
        rw [bl_all] at h2
        omega
      by_cases h0 : pend.length = 0
      · have hp0 : pend = [] := List.length_eq_zero_iff.1 h0
        subst hp0
        obtain rfl : O = res := by rw [← hres]; exact Hu.enc_of (k := 0) (by decide) hOb.out (by rw [← hE2]; simp)
        go_wp2_with fail
        go_ret
        exact ⟨_, rfl, own_base hO.out hww, hB⟩
      · obtain ⟨n, hn⟩ : ∃ n, pend.length = n := ⟨_, rfl⟩
        have hn0 : 0 < n := by omega
        have hni : ((pend.length : Nat) : Int) = (n : Int) := by rw [hn]
        have hn8 : n < 8 := by omega
        have hv2 := hv.out
        rw [hn] at hv2
        obtain ⟨hy, hy2⟩ := last_byte hn hn0 hn8 hv2
        have hfin : O ++ [Hu.val (pend ++ List.replicate (8 - n) true)] = res := by
          rw [← hres]
          refine Hu.enc_of (k := 8 - n) (by omega) (fun b hb => ?_) ?_
          · rcases List.mem_append.1 hb with h | h
            · exact hOb.out b h
            · rw [List.mem_singleton.1 h]; exact hy2
          · rw [bitsB_snoc, Hu.bitsN_val 8 _ (by simp; omega), ← List.append_assoc, hE2]
        generalize Hu.val (pend ++ List.replicate (8 - n) true) = y at *
        have hN := World.news_of_block (w := wr.alloc (.cells #[.int .u8 (y : Int)] 5)) (B := wr.heap.size) (heap_alloc_new wr _)
        have HN := Lib.hid hN
        have HOa := Lib.hid (hO.out.alloc (.cells #[.int .u8 (y : Int)] 5))
        clear hN hv hE hE2
        go_upto_region 15 with fail
        go_wp2_with (first
          | (at_builtin
             refine wpList_append_src rfl (.tmp 55) (.tmp 66) 81 rfl w2.heap.size 5 i0 _ 1 1 Tryz.underlying81 hi hz0 hz1 hz2 rfl (by decide) _ O.length (bv (ints O)) rfl HOa.out (some ⟨wr.heap.size, 0, none⟩) 1 1 (bv [(y : Int)]) rfl (by simp) rfl (fun ad had j u hu => by cases had; exact HN.out j u hu) (bv_one _) (by unfold maxLen; omega) (by omega) (by go_size) ?_
             intro r2 w5 hown hg5))
        have hw5 : Below w.heap.size w w5 := Below.grown (w := _) (by go_grown) hg5 (by go_size) (fun g hg => Nat.le_trans hww (HOa.out.lt g hg).1)
        rw [ints_snoc, hfin] at hown
        go_ret
        refine ⟨r2, rfl, own_base ?_ hww, hw5⟩
        have hl := congrArg List.length hfin
        simp only [List.length_append, List.length_singleton] at hl
        rw [← hl]; exact hown
end Go.AM
