/-
  RecTells: a record of which one byte is another one isn't read as a record of its length.
-/
import Derived.Test.YtfcdnjbahghllaaLawPlain
namespace Go.Proofs.Ytfcdnjbahghllaa
open Go.RowKit

theorem Own8.opened {w : World} {base : Nat} {v : Value} {l : List UInt8} {n : Nat} (h : Own8 w base v l) (hn : l.length = n) (h0 : 0 < n) :
    ∃ g c, v = .slice (some ⟨g, 0, none⟩) n c ∧ base ≤ g ∧ g < w.heap.size := by
  subst hn
  obtain ⟨p, c, rfl, h1, h2, h3, h4⟩ := h.shape
  obtain ⟨b, o, rfl, _⟩ := h3 h0
  obtain ⟨k1, k2, k3, _⟩ := h4 _ rfl
  dsimp only at k1 k2 k3
  subst k3
  exact ⟨b, c, rfl, k1, k2⟩

/-- another byte is another -/
theorem turned (x : UInt8) (t : Int) (h0 : 0 < t) (h1 : t ≤ 255) : 0 ≤ bits .xor .u8 (x.toNat : Int) t ∧ bits .xor .u8 (x.toNat : Int) t ≤ 255 ∧ ubyte (bits .xor .u8 (x.toNat : Int) t) ≠ x := by
  obtain ⟨m, rfl⟩ := Int.eq_ofNat_of_zero_le (show 0 ≤ t by omega)
  have hx := x.toNat_lt
  rw [u8_xor_nat x.toNat m hx (by omega)]
  have hlt : x.toNat ^^^ m < 256 := Nat.xor_lt_two_pow (n := 8) hx (by omega)
  refine ⟨by omega, by omega, fun e => ?_⟩
  have e2 := congrArg UInt8.toNat e
  unfold ubyte at e2
  rw [Int.toNat_natCast, UInt8.toNat_ofNat', Nat.mod_eq_of_lt hlt] at e2
  have : m = 0 := by
    have h := congrArg (fun y => x.toNat ^^^ y) e2
    simpa [← Nat.xor_assoc] using h
  omega

theorem encOf_ok {seq op no : Int} {id : List UInt8} (h : encErr seq op no id.length = 0) :
    encOf seq op no id = encAll seq.toNat op.toNat no.toNat id ∧ (op.toNat = 1 ∨ op.toNat = 2) ∧ (op = 1 ∨ op = 2) ∧ 0 ≤ seq ∧ seq ≤ 4294967295 ∧ 0 ≤ no ∧ no ≤ 4294967295 ∧ id.length ≤ 4096 := by
  refine ⟨by unfold encOf; rw [if_pos h], ?_⟩
  unfold encErr at h
  by_cases c : ¬ (op = 1 ∨ op = 2) ∨ ¬ (0 ≤ seq ∧ seq ≤ 4294967295) ∨ ¬ (0 ≤ no ∧ no ≤ 4294967295)
  · rw [if_pos c] at h; omega
  · rw [if_neg c] at h
    by_cases c2 : 4096 < id.length
    · rw [if_pos c2] at h; omega
    · refine ⟨by omega, by omega, by omega, by omega, by omega, by omega, by omega⟩
theorem size_list (s : ByteArray) : s.data.toList.length = s.size := by rw [Array.length_toList]; rfl

theorem recTells_bad (seq op no : Int) (id : ByteArray) (at_ t : Int) (w : World) (h : ¬ encErr seq op no id.size = 0) :
    Calls Try.prog 8 #[.agg #[.int .i64 seq, .int .i64 op, .int .i64 no, .string id], .int .i64 at_, .int .u8 t] w fun e w' => e = .returned (.bool true) ∧ Below w.heap.size w w' := by
  have hc : Box4 (w.alloc (.cells #[.int .i64 seq, .int .i64 op, .int .i64 no, .string id] 29)) w.heap.size _ _ _ _ := cells4_at w (.int .i64 seq) (.int .i64 op) (.int .i64 no) (.string id) 29
  have hbw : Below w.heap.size w (w.alloc (.cells #[.int .i64 seq, .int .i64 op, .int .i64 no, .string id] 29)) := (Below.refl _ _).alloc (Nat.le_refl _) _
  have he : (encErr seq op no id.size != 0) = true := by simp [h]
  clear h
  go_enter Try.func8, Try.ntmps8
  go_wp2_with fail
  refine (alive_any _).mono ?_
  rintro e w1 ⟨rfl, hb1⟩
  have hz1 : w.heap.size + 1 ≤ w1.heap.size := by have := hb1.size; simpa using this
  obtain ⟨c10, c11, c12, c13⟩ := hc.below hb1 (by simp)
  clear hc
  go_wp2_with fail
  refine (recEnc_any seq op no id w1).mono ?_
  rintro e w2 ⟨v2, rfl, hown2, hb2⟩
  clear c10 c11 c12 c13
  go_wp2_with fail
  go_ret
  have s2 := hb2.size
  exact ⟨rfl, (hbw.trans (hb1.mono (by simp))).trans (hb2.mono (by omega))⟩

theorem recTells_low (seq op no : Int) (id : ByteArray) (at_ t : Int) (w : World) (h : encErr seq op no id.size = 0) (hat : at_ < 0) :
    Calls Try.prog 8 #[.agg #[.int .i64 seq, .int .i64 op, .int .i64 no, .string id], .int .i64 at_, .int .u8 t] w fun e w' => e = .returned (.bool true) ∧ Below w.heap.size w w' := by
  have hc : Box4 (w.alloc (.cells #[.int .i64 seq, .int .i64 op, .int .i64 no, .string id] 29)) w.heap.size _ _ _ _ := cells4_at w (.int .i64 seq) (.int .i64 op) (.int .i64 no) (.string id) 29
  have hbw : Below w.heap.size w (w.alloc (.cells #[.int .i64 seq, .int .i64 op, .int .i64 no, .string id] 29)) := (Below.refl _ _).alloc (Nat.le_refl _) _
  have HE := Lib.hid h
  clear h
  go_enter Try.func8, Try.ntmps8
  go_wp2_with fail
  refine (alive_any _).mono ?_
  rintro e w1 ⟨rfl, hb1⟩
  have hz1 : w.heap.size + 1 ≤ w1.heap.size := by have := hb1.size; simpa using this
  obtain ⟨c10, c11, c12, c13⟩ := hc.below hb1 (by simp)
  clear hc
  go_wp2_with fail
  refine (recEnc_any seq op no id w1).mono ?_
  rintro e w2 ⟨v2, rfl, hown2, hb2⟩
  clear c10 c11 c12 c13
  rw [HE.out]
  go_wp2_with fail
  go_ret
  have s2 := hb2.size
  exact ⟨rfl, (hbw.trans (hb1.mono (by simp))).trans (hb2.mono (by omega))⟩

theorem recTells_high (seq op no : Int) (id : ByteArray) (at_ t : Int) (w : World) (h : encErr seq op no id.size = 0) (hat : 0 ≤ at_) (n : Nat) (hn : (encOf seq op no id.data.toList).length = n) (hat2 : (n : Int) ≤ at_) :
    Calls Try.prog 8 #[.agg #[.int .i64 seq, .int .i64 op, .int .i64 no, .string id], .int .i64 at_, .int .u8 t] w fun e w' => e = .returned (.bool true) ∧ Below w.heap.size w w' := by
  have hc : Box4 (w.alloc (.cells #[.int .i64 seq, .int .i64 op, .int .i64 no, .string id] 29)) w.heap.size _ _ _ _ := cells4_at w (.int .i64 seq) (.int .i64 op) (.int .i64 no) (.string id) 29
  have hbw : Below w.heap.size w (w.alloc (.cells #[.int .i64 seq, .int .i64 op, .int .i64 no, .string id] 29)) := (Below.refl _ _).alloc (Nat.le_refl _) _
  have HE := Lib.hid h
  have HN := Lib.hid hn
  clear h hn
  go_enter Try.func8, Try.ntmps8
  go_wp2_with fail
  refine (alive_any _).mono ?_
  rintro e w1 ⟨rfl, hb1⟩
  have hz1 : w.heap.size + 1 ≤ w1.heap.size := by have := hb1.size; simpa using this
  obtain ⟨c10, c11, c12, c13⟩ := hc.below hb1 (by simp)
  clear hc
  go_wp2_with fail
  refine (recEnc_any seq op no id w1).mono ?_
  rintro e w2 ⟨v2, rfl, hown2, hb2⟩
  clear c10 c11 c12 c13
  rw [HE.out]
  obtain ⟨p, c, rfl, k1, k2, k3⟩ := hown2.in8n HN.out
  go_wp2_with fail
  go_ret
  have s2 := hb2.size
  exact ⟨rfl, (hbw.trans (hb1.mono (by simp))).trans (hb2.mono (by omega))⟩

theorem recTells_same (seq op no : Int) (id : ByteArray) (at_ : Int) (w : World) (h : encErr seq op no id.size = 0) (hat : 0 ≤ at_) (n : Nat) (hn : (encOf seq op no id.data.toList).length = n) (hat2 : at_ < (n : Int)) :
    Calls Try.prog 8 #[.agg #[.int .i64 seq, .int .i64 op, .int .i64 no, .string id], .int .i64 at_, .int .u8 0] w fun e w' => e = .returned (.bool true) ∧ Below w.heap.size w w' := by
  have hc : Box4 (w.alloc (.cells #[.int .i64 seq, .int .i64 op, .int .i64 no, .string id] 29)) w.heap.size _ _ _ _ := cells4_at w (.int .i64 seq) (.int .i64 op) (.int .i64 no) (.string id) 29
  have hbw : Below w.heap.size w (w.alloc (.cells #[.int .i64 seq, .int .i64 op, .int .i64 no, .string id] 29)) := (Below.refl _ _).alloc (Nat.le_refl _) _
  have HE := Lib.hid h
  have HN := Lib.hid hn
  clear h hn
  go_enter Try.func8, Try.ntmps8
  go_wp2_with fail
  refine (alive_any _).mono ?_
  rintro e w1 ⟨rfl, hb1⟩
  have hz1 : w.heap.size + 1 ≤ w1.heap.size := by have := hb1.size; simpa using this
  obtain ⟨c10, c11, c12, c13⟩ := hc.below hb1 (by simp)
  clear hc
  go_wp2_with fail
  refine (recEnc_any seq op no id w1).mono ?_
  rintro e w2 ⟨v2, rfl, hown2, hb2⟩
  clear c10 c11 c12 c13
  rw [HE.out]
  obtain ⟨p, c, rfl, k1, k2, k3⟩ := hown2.in8n HN.out
  go_wp2_with fail
  go_ret
  have s2 := hb2.size
  exact ⟨rfl, (hbw.trans (hb1.mono (by simp))).trans (hb2.mono (by omega))⟩

set_option maxHeartbeats 2000000 in
theorem recTells_main (seq op no : Int) (id : ByteArray) (k : Nat) (t : Int) (w : World) (h : encErr seq op no id.size = 0) (hk : k < id.size + 15) (ht0 : 0 < t) (ht1 : t ≤ 255) :
    Calls Try.prog 8 #[.agg #[.int .i64 seq, .int .i64 op, .int .i64 no, .string id], .int .i64 k, .int .u8 t] w fun e w' => e = .returned (.bool true) ∧ Below w.heap.size w w' := by
  have h' := h
  rw [← size_list] at h'
  obtain ⟨hof, hop, hop2, hs0, hs1, hn0, hn1, hil⟩ := encOf_ok h'
  rw [size_list] at hil
  obtain ⟨L, hL⟩ : ∃ L, L = encAll seq.toNat op.toNat no.toNat id.data.toList := ⟨_, rfl⟩
  have hlen : L.length = id.size + 15 := by rw [hL, encAll_len, size_list]
  have hkL : k < L.length := by omega
  obtain ⟨r0, r1, r2⟩ := turned L[k] t ht0 ht1
  have htel := enc_tells seq.toNat op.toNat no.toNat id.data.toList k (ubyte (bits .xor .u8 (L[k].toNat : Int) t)) (by rw [size_list]; exact hk) (by rw [← hL, List.getElem?_eq_getElem hkL]; intro e; exact r2 (Option.some.inj e).symm)
  rw [← hL, size_list, ← bt_get L k hkL] at htel
  rw [← bt_get L k hkL] at r0 r1
  have hcs := dec_cases (L.set k (ubyte (bits .xor .u8 (bt L k) t)))
  rw [← hL] at hof
  have HE := Lib.hid h
  have HOF := Lib.hid hof
  have HL := Lib.hid hlen
  have HT := Lib.hid htel
  have HCS := Lib.hid hcs
  have hti : (t == 0) = false := by simp; omega
  clear h h' hof hL hlen htel hcs r2 hop hop2 hs0 hs1 hn0 hn1
  have hc : Box4 (w.alloc (.cells #[.int .i64 seq, .int .i64 op, .int .i64 no, .string id] 29)) w.heap.size _ _ _ _ := cells4_at w (.int .i64 seq) (.int .i64 op) (.int .i64 no) (.string id) 29
  have hbw : Below w.heap.size w (w.alloc (.cells #[.int .i64 seq, .int .i64 op, .int .i64 no, .string id] 29)) := (Below.refl _ _).alloc (Nat.le_refl _) _
  go_enter Try.func8, Try.ntmps8
  go_wp2_with fail
  refine (alive_any _).mono ?_
  rintro e w1 ⟨rfl, hb1⟩
  have hz1 : w.heap.size + 1 ≤ w1.heap.size := by have := hb1.size; simpa using this
  obtain ⟨c10, c11, c12, c13⟩ := hc.below hb1 (by simp)
  clear hc
  go_wp2_with fail
  refine (recEnc_any seq op no id w1).mono ?_
  rintro e w2 ⟨v2, rfl, hown2, hb2⟩
  clear c10 c11 c12 c13
  rw [HE.out]
  rw [HOF.out] at hown2
  obtain ⟨g, c, rfl, hg1, hg2⟩ := hown2.opened HL.out (by omega)
  obtain ⟨hcell, hfr⟩ := hown2.cells HL.out hk
  have hst := hown2.stored HL.out k _ r0 r1
  have hb3 : Below w1.heap.size w1 (w2.setCell ⟨g, k, none⟩ (.int .u8 (bits .xor .u8 (bt L k) t))) := hb2.setCell (p := ⟨g, k, none⟩) hg1 _
  go_wp2_with fail
  refine (recDec_own hst.1).mono ?_
  rintro e w4 ⟨rfl, hb4⟩
  have hz4 : w1.heap.size ≤ w4.heap.size := by have := hb3.size; have := hb4.size; omega
  have hfin := (hbw.trans (hb1.mono (by simp))).trans ((hb3.trans (hb4.mono hb3.size)).mono (show w.heap.size ≤ w1.heap.size by omega))
  clear hb3 hb4 hst hcell hfr hown2
  rcases HCS.out with hd | hd | ⟨hd, _, _, _, _, _⟩
  · have HD := Lib.hid hd
    clear hd
    rw [HD.out]
    unfold Dec.val Dec.none
    have hne : ((0 : Int) != (id.size : Int) + 15) = true := by simp; omega
    go_wp2_with fail
    go_ret
    exact ⟨ret_bool (by simp), hfin.alloc (by omega) _⟩
  · have HD := Lib.hid hd
    clear hd
    rw [HD.out]
    unfold Dec.val Dec.none
    go_wp2_with fail
    go_ret
    exact ⟨ret_bool (by simp), hfin.alloc (by omega) _⟩
  · have hn : ¬ (decGood (L.set k (ubyte (bits .xor .u8 (bt L k) t)))).n = ((id.size + 15 : Nat) : Int) := by
      intro e; exact HT.out ⟨by rw [hd]; rfl, by rw [hd]; exact e⟩
    have he0 : (decGood (L.set k (ubyte (bits .xor .u8 (bt L k) t)))).err = 0 := rfl
    have HD := Lib.hid hd
    clear hd
    rw [HD.out]
    generalize decGood (L.set k (ubyte (bits .xor .u8 (bt L k) t))) = d at *
    obtain ⟨ds, dop, dn, did, dlen, derr⟩ := d
    dsimp only at hn he0
    subst he0
    unfold Dec.val
    have hne : (dlen != (id.size : Int) + 15) = true := by simp; omega
    clear hn
    go_wp2_with fail
    go_ret
    exact ⟨ret_bool (by simp), hfin.alloc (by omega) _⟩

theorem recTells_walk (seq op no : Int) (id : ByteArray) (at_ : Int) (t : Int) (w : World) (_ : -9223372036854775808 ≤ seq ∧ seq ≤ 9223372036854775807) (_ : -9223372036854775808 ≤ op ∧ op ≤ 9223372036854775807) (_ : -9223372036854775808 ≤ no ∧ no ≤ 9223372036854775807) (_ : id.size ≤ maxLen)
    (_ : -9223372036854775808 ≤ at_ ∧ at_ ≤ 9223372036854775807) (ht : 0 ≤ t ∧ t ≤ 255) :
    Calls Try.prog 8 #[.agg #[.int .i64 seq, .int .i64 op, .int .i64 no, .string id], .int .i64 at_, .int .u8 t] w fun e w' => e = .returned (.bool true) ∧ Below w.heap.size w w' := by
  by_cases he : encErr seq op no id.size = 0
  · have h' := he
    rw [← size_list] at h'
    have hn : (encOf seq op no id.data.toList).length = id.size + 15 := by rw [(encOf_ok h').1, encAll_len, size_list]
    by_cases h0 : at_ < 0
    · exact recTells_low seq op no id at_ t w he h0
    · by_cases h1 : ((id.size + 15 : Nat) : Int) ≤ at_
      · exact recTells_high seq op no id at_ t w he (by omega) _ hn h1
      · obtain ⟨k, rfl⟩ := Int.eq_ofNat_of_zero_le (show 0 ≤ at_ by omega)
        by_cases h2 : t = 0
        · subst h2
          exact recTells_same seq op no id _ w he (by omega) _ hn (by omega)
        · exact recTells_main seq op no id k t w he (by omega) (by omega) ht.2
  · exact recTells_bad seq op no id at_ t w he
end Go.Proofs.Ytfcdnjbahghllaa
