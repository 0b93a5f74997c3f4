import Derived.Test.YtpgfdoakehpnlaaGreatDoorAvY
import Derived.Test.YtpgfdoakehpnlaaGreatDoorAvUa
set_option linter.unusedVariables false
set_option linter.unusedSimpArgs false
namespace Go.AM
open Go Go.Proofs Go.ChangeShapes Go.WideShapes Go.ChangeAt Go.RowKit Go.AM.Pi
set_option linter.unusedVariables false
set_option linter.unusedSimpArgs false
/-! # TopVary: unpack's reader: number and text -/
/-- a reader at a place of the bytes L -/
structure Rdr (w : World) (R : Nat) (t : TypeId) (C : Array Value) (A : Option Addr) (n cap : Nat) (L : List Int) (a : Nat) : Prop where
  blk : Go.AM.Blk w R t C
  size : 2 < C.size
  b : C[1]? = some (.slice A n cap)
  at_ : C[2]? = some (.int .i64 (a : Nat))
  bs : BS w (.slice A n cap) L
  byt : Byt L
/-- only the reader's place was written -/
structure Moved (w w' : World) (R : Nat) (t : TypeId) (C : Array Value) (tgt : Nat) : Prop where
  grown : w.grownBy w' (some R)
  blk : Go.AM.Blk w' R t (C.setIfInBounds 2 (.int .i64 (tgt : Nat)))
theorem moved_put {w w1 : World} {R : Nat} {t : TypeId} {C : Array Value} {tgt : Nat} (h : Go.AM.Blk w1 R t C) (hh : ∀ k : Nat, w1.heap[k]? = w.heap[k]?) (ho : w1.os = w.os) (ht : w1.tape = w.tape) (hp : w1.output = w.output) (hs : w1.heap.size = w.heap.size) :
    Moved w (w1.setCell ⟨R, 2, none⟩ (.int .i64 (tgt : Nat))) R t C tgt :=
  ⟨⟨ho, ht, hp, by simp [World.setCell, hs], fun k hk hne => by rw [heap_setCell_other w1 ⟨R, 2, none⟩ k _ (fun e => hne (by rw [e]))]; exact hh k⟩, Go.AM.Blk.put h 2 _⟩
set_option maxHeartbeats 1000000 in
set_option maxRecDepth 100000 in
theorem number_any {w : World} {R : Nat} {t : TypeId} {C : Array Value} {A : Option Addr} {n cap : Nat} {L : List Int} {a : Nat} (h : Rdr w R t C A n cap L a) (ha : a ≤ 4611686018427387904) (hLn : L.length ≤ 4611686018427387904) {x : Int} {tgt : Nat} (hg : getL L (a : Nat) 7 = (x, ((tgt : Nat) : Int), 0)) :
    Calls Tryz.prog 337 #[.pointer (some ⟨R, 0, none⟩), .int .i64 7] w fun e w' => e = .returned (.int .i64 x) ∧ Moved w w' R t C tgt ∧ w'.heap.size = w.heap.size := by
  obtain ⟨hC, hsz, hb, hat, hR, hL⟩ := h
  have c1 : w.cell? ⟨R, 1, none⟩ = some (.slice A n cap) := by rw [Go.AM.Blk.cell hC]; exact hb
  have c2 : w.cell? ⟨R, 2, none⟩ = some (.int .i64 (a : Nat)) := by rw [Go.AM.Blk.cell hC]; exact hat
  have f2 : w.frozen? ⟨R, 2, none⟩ = false := Go.AM.Blk.frozen hC 2
  have hget : ∀ m, Calls Tryz.prog 360 #[.slice A n cap, .int .i64 (a : Nat), .int .i64 7] (w.drewN m) fun e w' => e = .returned (tup (x, ((tgt : Nat) : Int), 0)) ∧ w' = w.drewN m := fun m => by
    have := get_still (.slice A n cap) L (a : Nat) 7 (w.drewN m) (hR.below (below_drewN (Below.refl _ _) m) (Nat.le_refl _)) hLn hL (by omega) (by omega) (by omega) (by omega)
    rw [hg] at this
    exact this
  clear hb hat
  go_enter Tryz.func337, Tryz.ntmps337
  go_upto_region 1 with fail
  go_quiet (exact Calls.quiet_of_same (hget _))
  go_wp2_with fail
  go_ret
  have hC' : Go.AM.Blk (w.drewN nq) R t C := hC
  exact ⟨rfl, moved_put hC' (fun k => rfl) rfl rfl rfl rfl, by simp [World.setCell]⟩
end Go.AM
namespace Go.AM
open Go Go.Proofs Go.ChangeShapes Go.WideShapes Go.ChangeAt Go.RowKit Go.AM.Pi
set_option linter.unusedVariables false
set_option linter.unusedSimpArgs false
/-! # TopVary: unpack's reader: text -/
theorem bs_grown {w w' : World} {A : Option Addr} {n cap R : Nat} {L : List Int} (h : BS w (.slice A n cap) L) (hg : w.grownBy w' (some R)) (hne : ∀ ad, A = some ad → ad.block ≠ R) : BS w' (.slice A n cap) L := by
  obtain ⟨A', cap', he, h2, h3, hc⟩ := h
  cases he
  refine ⟨A, cap, rfl, h2, h3, fun h0 => ?_⟩
  obtain ⟨b, off, hb, hlt, hq⟩ := hc h0
  refine ⟨b, off, hb, Nat.lt_of_lt_of_le hlt hg.size, fun i j hi hj => ?_⟩
  have hbR : b ≠ R := hne _ hb
  rw [World.cell?_of_block (w := w) (a := ⟨b, _, none⟩) (hg.block b hlt (by simp; exact hbR))]
  exact hq i j hi hj
theorem bs_sub {w : World} {b off n cap m k : Nat} {L M : List Int} (h : BS w (.slice (some ⟨b, off, none⟩) n cap) L) (hM : ∀ i, i < M.length → L.getD (m + i) 0 = M.getD i 0) (hm : m + M.length ≤ L.length) (hk : k = cap - m) :
    BS w (.slice (some ⟨b, off + m, none⟩) M.length k) M := by
  obtain ⟨A', cap', he, h2, h3, hc⟩ := h
  cases he
  refine ⟨_, _, rfl, by omega, trivial, fun h0 => ?_⟩
  obtain ⟨b', off', hb, hlt, hq⟩ := hc (by omega)
  cases hb
  refine ⟨b, off + m, rfl, hlt, fun i j hi hj => ?_⟩
  obtain rfl : j = 0 := by omega
  have := hq (m + i) 0 (by omega) (by omega)
  rw [show off + m + (i * 1 + 0) = off + ((m + i) * 1 + 0) by omega, this]
  show some (Value.int .u8 (L.getD (m + i) 0)) = some (Value.int .u8 (M.getD i 0))
  rw [hM i hi]
theorem Moved.trans {w w1 w2 : World} {R : Nat} {t : TypeId} {C : Array Value} {m1 m2 : Nat} (h : Moved w w1 R t C m1) (k : Moved w1 w2 R t (C.setIfInBounds 2 (.int .i64 (m1 : Nat))) m2) : Moved w w2 R t C m2 :=
  ⟨⟨k.grown.os.trans h.grown.os, k.grown.tape.trans h.grown.tape, k.grown.output.trans h.grown.output, Nat.le_trans h.grown.size k.grown.size, fun q hq hne => (k.grown.block q (Nat.lt_of_lt_of_le hq h.grown.size) hne).trans (h.grown.block q hq hne)⟩, by
    have := k.blk
    rwa [Array.setIfInBounds_setIfInBounds] at this⟩
theorem Moved.below {w w1 w2 : World} {R : Nat} {t : TypeId} {C : Array Value} {m1 : Nat} (h : Moved w w1 R t C m1) (hb : Below w1.heap.size w1 w2) : Moved w w2 R t C m1 := by
  have hR : R < w1.heap.size := Go.AM.Blk.lt h.blk
  exact ⟨⟨hb.os.trans h.grown.os, hb.tape.trans h.grown.tape, hb.output.trans h.grown.output, Nat.le_trans h.grown.size hb.size, fun q hq hne => (hb.block q (Nat.lt_of_lt_of_le hq h.grown.size)).trans (h.grown.block q hq hne)⟩, (hb.block R hR).trans h.blk⟩
set_option maxHeartbeats 2000000 in
set_option maxRecDepth 100000 in
theorem rtext_any {w : World} {R : Nat} {t : TypeId} {C : Array Value} {b off n cap : Nat} {L pre post : List Int} (h6 : 6 ≤ w.heap.size) (h : Rdr w R t C (some ⟨b, off, none⟩) n cap L pre.length) (hne : b ≠ R) (s : ByteArray) (hs : s.size ≤ 65536) (hL : L = pre ++ tI s ++ post) (hlen : L.length ≤ 1000000000) :
    Calls Tryz.prog 361 #[.pointer (some ⟨R, 0, none⟩)] w fun e w' => e = .returned (.string s) ∧ Moved w w' R t C (pre.length + (tI s).length) := by
  obtain ⟨top, P, htop, hP, hPs, hT, hPb⟩ : ∃ (top : Int) (P : List Nat), ((top = 128 ∧ P = Hu.enc (nb s)) ∨ (top = 0 ∧ P = nb s)) ∧ P.length ≤ 65536 ∧ (∀ c ∈ P, c < 256) ∧ tI s = putL 7 top (P.length : Nat) ++ ints P ∧ True := by
    unfold tI
    by_cases hlt : Hu.size (nb s) < s.size
    · exact ⟨128, Hu.enc (nb s), .inl ⟨rfl, rfl⟩, by rw [Hu.enc_len]; omega, Hu.enc_lt _, by rw [if_pos hlt, Hu.enc_len], trivial⟩
    · exact ⟨0, nb s, .inr ⟨rfl, rfl⟩, by rw [nb_len]; omega, nb_lt s, by rw [if_neg hlt, nb_len], trivial⟩
  have hn : n = L.length := by obtain ⟨_, _, he, _⟩ := h.bs; cases he; rfl
  have hcap : n ≤ cap := by obtain ⟨_, _, he, h2, h3, _⟩ := h.bs; cases he; omega
  obtain ⟨d, M, hd, hd2⟩ := put_head (k := 7) (t := top) (x := (P.length : Nat)) (by omega) (by omega) (by omega) (by omega)
  have hT2 : tI s = d :: (M ++ ints P) := by rw [hT, hd]; rfl
  have hml : (putL 7 top (P.length : Nat)).length = M.length + 1 := by rw [hd]; rfl
  have hLl : L.length = pre.length + (M.length + 1) + P.length + post.length := by rw [hL, hT2]; simp [ints_len]; omega
  have hget := get_put pre (ints P ++ post) (k := 7) (t := top) (x := (P.length : Nat)) (by omega) (by omega) (by omega) (by omega)
  rw [show pre ++ putL 7 top (P.length : Nat) ++ (ints P ++ post) = L by rw [hL, hT]; simp, hml] at hget
  have hdn : d = L.getD pre.length 0 := by rw [hL, hT2]; exact (get_head (A := pre) (M := M ++ ints P) (B := post)).symm
  have hsub : ∀ i, i < (ints P).length → L.getD (pre.length + (M.length + 1) + i) 0 = (ints P).getD i 0 := by
    have := (sits_mid (pre ++ (d :: M)) (ints P) post).2
    intro i hi
    have h2 := this i hi
    rw [hL, hT2]
    simpa [Nat.add_assoc, Nat.add_comm 1] using h2
  have hdb := h.byt.at pre.length
  rw [← hdn] at hdb
  have hfin : pre.length + (tI s).length = pre.length + (M.length + 1) + P.length := by rw [hT2]; simp [ints_len]; omega
  rw [hfin]
  have ha2 : pre.length < n := by omega
  obtain ⟨hC, hsz, hb, hat, hR, hY⟩ := h
  obtain ⟨q0, q1, q2, q3, q4, q5⟩ := id hR
  have c3 : w.cell? ⟨b, off + pre.length, none⟩ = some (.int .u8 d) := by
    obtain ⟨b', off', e1, e2, e3⟩ := q5 (by omega)
    cases q2
    cases e1
    have := e3 pre.length 0 (by omega) (by omega)
    rw [hdn]
    simpa using this
  clear q1 q2 q3 q4 q5
  have c1 : w.cell? ⟨R, 1, none⟩ = some (.slice (some ⟨b, off, none⟩) n cap) := by rw [Go.AM.Blk.cell hC]; exact hb
  have c2 : w.cell? ⟨R, 2, none⟩ = some (.int .i64 (pre.length : Nat)) := by rw [Go.AM.Blk.cell hC]; exact hat
  have hpw : pw 7 = 128 := rfl
  rw [hpw] at hd2
  have hnum : ∀ m, Calls Tryz.prog 337 #[.pointer (some ⟨R, 0, none⟩), .int .i64 7] (w.drewN m) fun e w' => e = .returned (.int .i64 (P.length : Nat)) ∧ Moved w w' R t C (pre.length + (M.length + 1)) ∧ w'.heap.size = w.heap.size := fun m => by
    have h' : Rdr (w.drewN m) R t C (some ⟨b, off, none⟩) n cap L pre.length := ⟨hC, hsz, hb, hat, hR.below (below_drewN (Below.refl _ _) m) (Nat.le_refl _), hY⟩
    refine (number_any h' (by omega) (by omega) hget).mono fun e w' ⟨e1, e2, e3⟩ => ⟨e1, ?_, e3⟩
    exact ⟨⟨e2.grown.os, e2.grown.tape, e2.grown.output, e2.grown.size, e2.grown.block⟩, e2.blk⟩
  clear hget hdn hT hT2 hd hml hfin hL
  generalize pre.length = a at *
  generalize M.length = ml at *
  have hfit : a + (ml + 1) + P.length ≤ n := by omega
  have HN := Lib.hid hn
  have HLl := Lib.hid hLl
  have HR := Lib.hid hR
  have HSub := Lib.hid hsub
  have hn2 : n ≤ 1000000000 := by omega
  clear hn hLl hR hsub hb hat
  have hai : ¬ (a : Int) = (n : Int) := by omega
  have hai2 : (a : Int) < (n : Int) := by omega
  go_enter Tryz.func361, Tryz.ntmps361
  go_upto_region 1 with fail
  go_quiet (fail)
  go_upto_region 3 with fail
  go_quiet (fail)
  go_upto_region 4 with fail
  have hB : Below w.heap.size w (w.drewN nq) := below_drewN (Below.refl _ _) _
  go_upto_region 5 with (go_at_call 337; refine (hnum _).mono ?_; rintro e w1 ⟨rfl, hM, hsz1⟩)
  obtain ⟨m1, hm1⟩ : ∃ m1, a + (ml + 1) = m1 := ⟨_, rfl⟩
  rw [hm1] at hM hfit HSub
  have d1 : w1.cell? ⟨R, 1, none⟩ = some (.slice (some ⟨b, off, none⟩) n cap) := by
    rw [Go.AM.Blk.cell hM.blk, Array.getElem?_setIfInBounds_ne (by decide), ← Go.AM.Blk.cell hC]; exact c1
  have d2 : w1.cell? ⟨R, 2, none⟩ = some (.int .i64 (m1 : Nat)) := by
    rw [Go.AM.Blk.cell hM.blk, Array.getElem?_setIfInBounds_self]; rw [if_pos hsz]
  have d3 : w1.frozen? ⟨R, 2, none⟩ = false := Go.AM.Blk.frozen hM.blk 2
  have HR1 := Lib.hid (bs_grown HR.out hM.grown (fun ad e => by cases e; exact hne))
  have hk1 : ¬ (65536 : Int) < (P.length : Int) := by omega
  have hk2 : ¬ (n : Int) - (m1 : Int) < (P.length : Int) := by omega
  have hk4 : m1 + P.length ≤ cap := by omega
  have hk5 : m1 ≤ m1 + P.length := by omega
  clear c1 c2 c3 hnum
  go_upto_region 7 with fail
  go_quiet (fail)
  go_upto_region 9 with fail
  go_quiet (fail)
  go_upto_region 11 with fail
  refine Pi.wp_forget (fun W => Moved w W R t C (m1 + P.length) ∧ BS W (.slice (if cap = m1 then some ⟨b, off, none⟩ else some ⟨b, off + m1, none⟩) (m1 + P.length - m1) (cap - m1)) (ints P) ∧ 6 ≤ W.heap.size) ?_ ?_
  · have hP0 : (ints P).length = P.length := ints_len P
    have key : ∀ W2, Moved w1 W2 R t (C.setIfInBounds 2 (.int .i64 (m1 : Nat))) (m1 + P.length) → (Moved w W2 R t C (m1 + P.length) ∧ BS W2 (.slice (if cap = m1 then some ⟨b, off, none⟩ else some ⟨b, off + m1, none⟩) (m1 + P.length - m1) (cap - m1)) (ints P) ∧ 6 ≤ W2.heap.size) := fun W2 hm => by
      refine ⟨hM.trans hm, ?_, by have := hm.grown.size; omega⟩
      have hW := bs_grown HR1.out hm.grown (fun ad e => by cases e; exact hne)
      rw [Nat.add_sub_cancel_left]
      by_cases hp : P.length = 0
      · have : ints P = [] := List.length_eq_zero_iff.1 (by rw [hP0]; exact hp)
        rw [this, hp]
        exact ⟨_, _, rfl, by simp, trivial, fun h => absurd h (by simp)⟩
      · rw [if_neg (by omega), ← hP0]
        exact bs_sub hW HSub.out (by have := HN.out; rw [hP0]; omega) rfl
    refine key _ ?_
    rw [← Int.natCast_add]
    exact moved_put hM.blk (fun k => rfl) rfl rfl rfl rfl
  intro W ⟨hMW, hBW, h6W⟩
  generalize Value.slice (if cap = m1 then some (⟨b, off, none⟩ : Addr) else some ⟨b, off + m1, none⟩) (m1 + P.length - m1) (cap - m1) = v3 at *
  rcases htop with ⟨rfl, rfl⟩ | ⟨rfl, rfl⟩
  · have hdge : 128 ≤ d := by omega
    obtain ⟨k, hk, hway⟩ := Hu.way_enc (nb_lt s)
    have hdec := decode_any v3 (Hu.enc (nb s)) (nb s) (by omega) W h6W hBW hPs hk hway
    rw [strOf_nb] at hdec
    have hsz0 : (s.size : Int) ≤ 65536 := by omega
    go_wp2_with (go_at_call 370; refine hdec.mono ?_; rintro e w2 ⟨rfl, hB2⟩)
    go_ret
    exact ⟨rfl, by rw [hm1]; exact hMW.below hB2⟩
  · have hdge : ¬ 128 ≤ d := by omega
    have hstr := run_bs_string hBW
    rw [strOf_nb] at hstr
    go_wp2_with fail
    go_ret
    exact ⟨rfl, hMW⟩
end Go.AM
