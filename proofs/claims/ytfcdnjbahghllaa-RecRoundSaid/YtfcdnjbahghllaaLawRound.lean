/-
  RecRound: a record that is written is read as it was, whatever stands behind it; of each beginning of it more is awaited.
-/
import Derived.Test.YtfcdnjbahghllaaLawTells
import Derived.Test.YtfcdnjbahghllaaAppend2
namespace Go.Proofs.Ytfcdnjbahghllaa
open Go.RowKit

theorem recRound_bad (seq op no : Int) (id : ByteArray) (rest : List UInt8) (p : Option Addr) (c : Nat) (cut : Int) (w : World) (h : ¬ encErr seq op no id.size = 0) :
    Calls Try.prog 7 #[.agg #[.int .i64 seq, .int .i64 op, .int .i64 no, .string id], .slice p rest.length c, .int .i64 cut] w fun e w' => e = .returned (.bool true) ∧ Below w.heap.size w w' := by
  have hc : Box4 (w.alloc (.cells #[.int .i64 seq, .int .i64 op, .int .i64 no, .string id] 29)) w.heap.size _ _ _ _ := cells4_at w (.int .i64 seq) (.int .i64 op) (.int .i64 no) (.string id) 29
  have hbw : Below w.heap.size w (w.alloc (.cells #[.int .i64 seq, .int .i64 op, .int .i64 no, .string id] 29)) := (Below.refl _ _).alloc (Nat.le_refl _) _
  have he : (encErr seq op no id.size != 0) = true := by simp [h]
  have hn : (encOf seq op no id.data.toList).length = 0 := by unfold encOf; rw [size_list, if_neg h]; rfl
  have HN := Lib.hid hn
  clear h hn
  go_enter Try.func7, Try.ntmps7
  go_wp2_with fail
  refine (alive_any _).mono ?_
  rintro e w1 ⟨rfl, hb1⟩
  have hz1 : w.heap.size + 1 ≤ w1.heap.size := by have := hb1.size; simpa using this
  have hB1 := hc.below hb1 (by simp)
  obtain ⟨c10, c11, c12, c13⟩ := _root_.id hB1
  clear hc
  go_wp2_with fail
  refine (recEnc_any seq op no id w1).mono ?_
  rintro e w2 ⟨v2, rfl, hown2, hb2⟩
  have hB2 := hB1.below hb2 (by omega)
  clear c10 c11 c12 c13 hB1
  obtain ⟨p2, c2, rfl, k1, k2, k3⟩ := hown2.in8n HN.out
  go_wp2_with fail
  go_ret
  have s2 := hb2.size
  exact ⟨rfl, (hbw.trans (hb1.mono (by simp))).trans (hb2.mono (by omega))⟩

theorem dec_round (seq op no : Int) (id : ByteArray) (rest : List UInt8) (hop : op.toNat = 1 ∨ op.toNat = 2) (ho : op = 1 ∨ op = 2) (hs0 : 0 ≤ seq) (hs1 : seq ≤ 4294967295) (hn0 : 0 ≤ no) (hn1 : no ≤ 4294967295) (hil : id.size ≤ 4096) :
    (dec (encAll seq.toNat op.toNat no.toNat id.data.toList ++ rest)).val = .tuple #[.agg #[.int .i64 seq, .int .i64 op, .int .i64 no, .string id], .int .i64 ((id.size : Int) + 15), .int .i64 0] := by
  rw [enc_dec seq.toNat op.toNat no.toNat id.data.toList rest hop (by omega) (by omega) (by rw [size_list]; exact hil)]
  unfold Dec.val
  dsimp only
  rw [Int.toNat_of_nonneg hs0, Int.toNat_of_nonneg hn0, Int.toNat_of_nonneg (by omega), size_list]
  rfl

set_option maxHeartbeats 4000000 in
theorem recRound_good (seq op no : Int) (id : ByteArray) (rest : List UInt8) (p : Option Addr) (c : Nat) (cut : Int) (w : World) (h : encErr seq op no id.size = 0) (hr : rest.length ≤ 140737488351232) (hin : In8 w p rest) :
    Calls Try.prog 7 #[.agg #[.int .i64 seq, .int .i64 op, .int .i64 no, .string id], .slice p rest.length c, .int .i64 cut] w fun e w' => e = .returned (.bool true) ∧ Below w.heap.size w w' := by
  have h' := h
  rw [← size_list] at h'
  obtain ⟨hof, hop, hop2, hs0, hs1, hn0, hn1, hil⟩ := encOf_ok h'
  rw [size_list] at hil
  obtain ⟨L, hL⟩ : ∃ L, L = encAll seq.toNat op.toNat no.toNat id.data.toList := ⟨_, rfl⟩
  have hlen : L.length = id.size + 15 := by rw [hL, encAll_len, size_list]
  have hd1 := dec_round seq op no id rest hop hop2 hs0 hs1 hn0 hn1 hil
  have hd2 := fun k hk => enc_cut seq.toNat op.toNat no.toNat id.data.toList hop (by rw [size_list]; exact hil) k (by rw [size_list]; exact hk)
  rw [← hL] at hof hd1
  rw [← hL] at hd2
  have HE := Lib.hid h
  have HOF := Lib.hid hof
  have HL := Lib.hid hlen
  have HD1 := Lib.hid hd1
  have HD2 := Lib.hid hd2
  clear h h' hof hL hlen hd1 hd2 hop hop2 hs0 hs1 hn0 hn1
  have hc : Box4 (w.alloc (.cells #[.int .i64 seq, .int .i64 op, .int .i64 no, .string id] 29)) w.heap.size _ _ _ _ := cells4_at w (.int .i64 seq) (.int .i64 op) (.int .i64 no) (.string id) 29
  have hbw : Below w.heap.size w (w.alloc (.cells #[.int .i64 seq, .int .i64 op, .int .i64 no, .string id] 29)) := (Below.refl _ _).alloc (Nat.le_refl _) _
  go_enter Try.func7, Try.ntmps7
  go_wp2_with fail
  refine (alive_any _).mono ?_
  rintro e w1 ⟨rfl, hb1⟩
  have hz1 : w.heap.size + 1 ≤ w1.heap.size := by have := hb1.size; simpa using this
  have hB1 := hc.below hb1 (by simp)
  obtain ⟨c10, c11, c12, c13⟩ := _root_.id hB1
  clear hc
  go_wp2_with fail
  refine (recEnc_any seq op no id w1).mono ?_
  rintro e w2 ⟨v2, rfl, hown2, hb2⟩
  have hB2 := hB1.below hb2 (by omega)
  clear c10 c11 c12 c13 hB1
  have h3 := ((hin.alloc (.cells #[.int .i64 seq, .int .i64 op, .int .i64 no, .string id] 29)).below (hb1.mono (Nat.le_refl _))).below hb2
  rw [HE.out]
  rw [HOF.out] at hown2
  obtain ⟨p2, c2, rfl, k1, k2, k3⟩ := hown2.in8n HL.out
  go_wp2_with fail
  refine (copyBytes_any L p2 _ c2 HL.out (by omega) w2 k3).mono ?_
  rintro e w3 ⟨v3, rfl, hown3, hb3⟩
  have hB3 := hB2.below hb3 (by have := hb2.size; omega)
  have h4 := h3.below hb3
  have k4 := k3.below hb3
  have hz3 : w2.heap.size ≤ w3.heap.size := hb3.size
  go_wp2_with (at_builtin; refine wpList_append8w rfl _ _ rfl w2.heap.size v3 L rfl hown3 _ _ _ rest rfl rfl h4 (by rw [HL.out]; omega) hz3 ?_; intro v4 w4 hown4 hg4)
  have hb4 := own_grown (Below.refl w2.heap.size w3) hz3 hown3 hg4
  have hB4 := hB3.below hb4 (by have := hb2.size; omega)
  clear hg4 hown3 hown2
  refine (recDec_own hown4).mono ?_
  rintro e w5 ⟨rfl, hb5⟩
  rw [HD1.out]
  have hb25 := hb4.trans (hb5.mono (by have := hb4.size; omega))
  have hz5 : w2.heap.size ≤ w5.heap.size := by have := hb25.size; omega
  have hz2 : w1.heap.size ≤ w2.heap.size := hb2.size
  have hB5 := hB3.below hb25 (by omega)
  obtain ⟨e0, e1, e2, e3⟩ := hB5
  have f0 := fun O => cell_past e0 O
  have f1 := fun O => cell_past e1 O
  have f2 := fun O => cell_past e2 O
  have f3 := fun O => cell_past e3 O
  clear e0 e1 e2 e3
  have hfin := ((hbw.trans (hb1.mono (by simp))).trans (hb2.mono (by omega))).trans ((hb3.trans hb25).mono (by omega))
  have k6 : In8 w5 p2 L := by
    intro h0
    obtain ⟨b, o, rfl, hcc⟩ := k3 h0
    have hlt : b < w2.heap.size := World.block_lt_of_cell? w2 ⟨b, o + 0, none⟩ (hcc 0 h0)
    exact ⟨b, o, rfl, fun i hi => ((hb3.trans hb25).cell (p := ⟨b, o + i, none⟩) hlt).trans (hcc i hi)⟩
  by_cases hc0 : cut < 0
  · go_wp2_with fail
    go_ret
    exact ⟨rfl, hfin.alloc (by omega) _⟩
  · by_cases hc1 : (id.size : Int) + 15 ≤ cut
    · have hc2 : 0 ≤ cut := by omega
      go_wp2_with fail
      go_ret
      exact ⟨rfl, hfin.alloc (by omega) _⟩
    · obtain ⟨k, rfl⟩ := Int.eq_ofNat_of_zero_le (show 0 ≤ cut by omega)
      have hk : k < id.size + 15 := by omega
      clear hc0 hc1
      have hd := HD2.out k hk
      have hlk : (L.take k).length = k := by rw [List.length_take, HL.out]; omega
      have HD := Lib.hid hd
      have HK := Lib.hid hlk
      clear hd hlk HD2
      go_wp2_with fail
      have k7 := (k6.cut k).alloc (.cells #[.int .i64 seq, .int .i64 op, .int .i64 no, .string id] 29)
      have hb6 := hfin.alloc (show w.heap.size ≤ w5.heap.size by omega) (.cells #[.int .i64 seq, .int .i64 op, .int .i64 no, .string id] 29)
      have g0 : (w5.alloc (.cells #[.int .i64 seq, .int .i64 op, .int .i64 no, .string id] 29)).heap[w5.heap.size]? = some (.cells #[.int .i64 seq, .int .i64 op, .int .i64 no, .string id] 29 (0, 0)) := heap_alloc_new w5 _
      have hz6 : (w5.alloc (.cells #[.int .i64 seq, .int .i64 op, .int .i64 no, .string id] 29)).heap.size = w5.heap.size + 1 := World.size_alloc _ _
      generalize w5.alloc (.cells #[.int .i64 seq, .int .i64 op, .int .i64 no, .string id] 29) = w6 at *
      refine (recDec_any _ p2 _ c2 HK.out (by omega) k2 w6 k7).mono ?_
      rintro e w7 ⟨rfl, hb7⟩
      have g1 := (hb7.block w5.heap.size (by omega)).trans g0
      obtain ⟨e0, e1, e2, e3⟩ := four_of_block g1
      have e8 := free_of_block g1
      have hf7 := hb6.trans (hb7.mono (by omega))
      rw [HD.out]
      unfold Dec.val Dec.none
      clear f0 f1 f2 f3
      go_wp2_with fail
      go_ret
      refine ⟨ret_bool (by simp), ?_⟩
      exact (((hf7.setCell (p := ⟨w5.heap.size, 0, none⟩) (by show w.heap.size ≤ w5.heap.size; omega) _).setCell (p := ⟨w5.heap.size, 1, none⟩) (by show w.heap.size ≤ w5.heap.size; omega) _).setCell (p := ⟨w5.heap.size, 2, none⟩) (by show w.heap.size ≤ w5.heap.size; omega) _).setCell (p := ⟨w5.heap.size, 3, none⟩) (by show w.heap.size ≤ w5.heap.size; omega) _

theorem recRound_walk (seq op no : Int) (id : ByteArray) (rest : List UInt8) (p : Option Addr) (c : Nat) (cut : Int) (w : World) (_ : -9223372036854775808 ≤ seq ∧ seq ≤ 9223372036854775807) (_ : -9223372036854775808 ≤ op ∧ op ≤ 9223372036854775807) (_ : -9223372036854775808 ≤ no ∧ no ≤ 9223372036854775807) (_ : id.size ≤ maxLen)
    (hr : rest.length ≤ 140737488351232) (_ : rest.length ≤ c ∧ c ≤ 140737488351232) (hin : In8 w p rest) (_ : -9223372036854775808 ≤ cut ∧ cut ≤ 9223372036854775807) :
    Calls Try.prog 7 #[.agg #[.int .i64 seq, .int .i64 op, .int .i64 no, .string id], .slice p rest.length c, .int .i64 cut] w fun e w' => e = .returned (.bool true) ∧ Below w.heap.size w w' := by
  by_cases he : encErr seq op no id.size = 0
  · exact recRound_good seq op no id rest p c cut w he hr hin
  · exact recRound_bad seq op no id rest p c cut w he
end Go.Proofs.Ytfcdnjbahghllaa
