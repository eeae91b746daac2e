/-
  The document's Encode: what it writes.
-/
import Derived.Test.YtfcdnjbahghllaaEnc
namespace Go.Proofs.Ytfcdnjbahghllaa
open Go.RowKit

set_option maxHeartbeats 2000000 in
theorem refEnc_ok (seq op no : Int) (id : ByteArray) (hop : op = 1 ∨ op = 2) (hs0 : 0 ≤ seq) (hs1 : seq ≤ 4294967295) (hn0 : 0 ≤ no) (hn1 : no ≤ 4294967295) (hid : id.size ≤ 4096) (w : World) :
    Calls Try.prog 16 #[.agg #[.int .i64 seq, .int .i64 op, .int .i64 no, .string id]] w fun e w' => ∃ v, e = .returned (.tuple #[v, .int .i64 0]) ∧ Own8 w' w.heap.size v (encAll seq.toNat op.toNat no.toNat id.data.toList) ∧ Below w.heap.size w w' := by
  have hz : id.data.toList.length = id.size := by rw [Array.length_toList]; rfl
  have HZ := Lib.hid hz
  have hc := cells4_at w (.int .i64 seq) (.int .i64 op) (.int .i64 no) (.string id) 29
  have HC := Lib.hid hc
  have hol := Own8.lit (w.alloc (.cells #[.int .i64 seq, .int .i64 op, .int .i64 no, .string id] 29)) (192 + op) (by omega) (by omega)
  have HO := Lib.hid hol
  have hb0 : Below (w.heap.size + 1) (w.alloc (.cells #[.int .i64 seq, .int .i64 op, .int .i64 no, .string id] 29)) ((w.alloc (.cells #[.int .i64 seq, .int .i64 op, .int .i64 no, .string id] 29)).alloc (.cells #[.int .u8 (192 + op)] 5)) := (Below.refl _ _).alloc (by simp) _
  have hbw : Below w.heap.size w (w.alloc (.cells #[.int .i64 seq, .int .i64 op, .int .i64 no, .string id] 29)) := (Below.refl _ _).alloc (Nat.le_refl _) _
  clear hz hc hol
  have h192 : ubyte (192 + op) = UInt8.ofNat (192 + op.toNat) := by unfold ubyte; congr 1; omega
  have H192 := Lib.hid h192
  clear h192
  rcases hop with rfl | rfl
  · go_enter Try.func16, Try.ntmps16
    go_wp2_with fail
    refine (number_any _ _ 2 rfl (by omega) (by omega) (by omega) _).mono ?_
    rintro e w1 ⟨n1, rfl, hn1o, hb1⟩
    have hown1 := HO.out.below hb1
    have hb1' := hb0.trans (hb1.mono (by simp))
    have hz1 : w.heap.size + 1 ≤ w1.heap.size := by have := hb1'.size; simpa using this
    rw [World.size_alloc] at hown1
    have c10 := (hb1'.cell (p := ⟨w.heap.size, 0, none⟩) (by simp)).trans HC.out.1
    have c12 := (hb1'.cell (p := ⟨w.heap.size, 2, none⟩) (by simp)).trans HC.out.2.2.1
    have c13 := (hb1'.cell (p := ⟨w.heap.size, 3, none⟩) (by simp)).trans HC.out.2.2.2
    clear hb1
    go_wp2_with (at_builtin; refine wpList_append8o rfl _ _ rfl (w.heap.size + 1) _ _ rfl hown1 _ n1 _ rfl hn1o (by simp [beB_length]) hz1 ?_; intro v2 w2 hown2 hg2; have hb2 := own_grown (Below.refl (w.heap.size + 1) w1) hz1 hown1 hg2; clear hg2; have c20 := (hb2.cell (p := ⟨w.heap.size, 0, none⟩) (by simp)).trans c10)
    have hz2 : w.heap.size + 1 ≤ w2.heap.size := by have := hb2.size; omega
    replace c12 := (hb2.cell (p := ⟨w.heap.size, 2, none⟩) (by simp)).trans c12
    replace c13 := (hb2.cell (p := ⟨w.heap.size, 3, none⟩) (by simp)).trans c13
    clear hown1 hn1o c10 c20
    refine (number_any _ _ 4 rfl (by omega) (by omega) (by omega) _).mono ?_
    rintro e w3 ⟨n3, rfl, hn3o, hb3⟩
    have hown3 := hown2.below hb3
    replace hb3 := hb3.mono hz2
    have hz3 : w.heap.size + 1 ≤ w3.heap.size := by have := hb3.size; omega
    replace c12 := (hb3.cell (p := ⟨w.heap.size, 2, none⟩) (by simp)).trans c12
    replace c13 := (hb3.cell (p := ⟨w.heap.size, 3, none⟩) (by simp)).trans c13
    clear hown2
    go_wp2_with (at_builtin; refine wpList_append8o rfl _ _ rfl (w.heap.size + 1) v2 _ rfl hown3 _ n3 _ rfl hn3o (by simp [beB_length]) hz3 ?_; intro v4 w4 hown4 hg4; have hb4 := own_grown (Below.refl (w.heap.size + 1) w3) hz3 hown3 hg4; clear hg4; have c40 := (hb4.cell (p := ⟨w.heap.size, 2, none⟩) (by simp)).trans c12)
    have hz4 : w.heap.size + 1 ≤ w4.heap.size := by have := hb4.size; omega
    replace c13 := (hb4.cell (p := ⟨w.heap.size, 3, none⟩) (by simp)).trans c13
    clear hown3 hn3o c12 c40
    refine (number_any _ _ 4 rfl (by omega) (by omega) (by omega) _).mono ?_
    rintro e w5 ⟨n5, rfl, hn5o, hb5⟩
    have hown5 := hown4.below hb5
    replace hb5 := hb5.mono hz4
    have hz5 : w.heap.size + 1 ≤ w5.heap.size := by have := hb5.size; omega
    replace c13 := (hb5.cell (p := ⟨w.heap.size, 3, none⟩) (by simp)).trans c13
    clear hown4
    go_wp2_with (first | (at_builtin; refine wpList_append8o rfl _ (.tmp 56) rfl (w.heap.size + 1) v4 _ rfl hown5 _ n5 _ rfl hn5o (by simp [beB_length]) hz5 ?_; intro v6 w6 hown6 hg6; have hb6 := own_grown (Below.refl (w.heap.size + 1) w5) hz5 hown5 hg6; clear hg6; replace c13 := (hb6.cell (p := ⟨w.heap.size, 3, none⟩) (by simp)).trans c13) | (refine wpList_toBytes rfl (.tmp 60) rfl id rfl (by unfold maxLen; omega) ?_; intro g7 c7 w7 hg7 hg7' hin7 hc7 hc7' hb7 _) | (at_builtin; refine wpList_append8 rfl _ (.tmp 61) rfl (w.heap.size + 1) v6 _ rfl (hown6.below hb7) _ _ _ id.data.toList HZ.out rfl hin7 (by simp [beB_length]; omega) (by have := hb6.size; have := hb7.size; omega) ?_; intro v8 w8 hown8 hg8 _))
    have hz6 : w.heap.size + 1 ≤ w6.heap.size := by have := hb6.size; omega
    have hz7 : w.heap.size + 1 ≤ w7.heap.size := by have := hb7.size; omega
    have hb8 := own_grown (Below.refl (w.heap.size + 1) w7) hz7 (hown6.below hb7) hg8
    have hz8 : w.heap.size + 1 ≤ w8.heap.size := by have := hb8.size; omega
    obtain ⟨L, hL⟩ : ∃ L, L = [ubyte (192 + 1)] ++ beB (id.size : Int).toNat 2 ++ beB seq.toNat 4 ++ beB no.toNat 4 ++ id.data.toList := ⟨_, rfl⟩
    rw [← hL] at hown8
    have hlen : L.length ≤ 100000 := by rw [hL]; simp [beB_length]; omega
    have HL := Lib.hid hL
    have hbase : Below (w.heap.size + 1) (w.alloc (.cells #[.int .i64 seq, .int .i64 1, .int .i64 no, .string id] 29)) w8 := ((((((hb1'.trans hb2).trans hb3).trans hb4).trans hb5).trans hb6).trans (hb7.mono hz6)).trans hb8
    clear hL hg8 hown5 hown6 hn5o c13 hin7 hb1' hb2 hb3 hb4 hb5 hb6 hb7 hb8
    refine (refSum_own hown8).mono ?_
    rintro e w9 ⟨rfl, rfl⟩
    have hcl := crc_lt L
    go_wp2_with fail
    refine (number_any _ _ 4 rfl (by omega) (by omega) (by omega) _).mono ?_
    rintro e w9 ⟨n9, rfl, hn9o, hb9⟩
    have hown9 := hown8.below hb9
    replace hbase := hbase.trans (hb9.mono hz8)
    have hz9 : w.heap.size + 1 ≤ w9.heap.size := by have := hb9.size; omega
    clear hown8 hb9
    go_wp2_with (at_builtin; refine wpList_append8o rfl _ (.tmp 66) rfl (w.heap.size + 1) v8 _ rfl hown9 _ n9 _ rfl hn9o (by simp [beB_length]; omega) hz9 ?_; intro v10 w10 hown10 hg10)
    go_ret2
    refine ⟨v10, rfl, ?_, ?_⟩
    · refine Own8.mono ?_ (Nat.le_succ _)
      have e : encAll seq.toNat (Int.toNat 1) no.toNat id.data.toList = L ++ beB ((crc L : Nat) : Int).toNat 4 := by
        unfold encAll encBody; rw [← H192.out, HZ.out, HL.out]; rfl
      rw [e]; exact hown10
    · exact hbw.trans ((hbase.trans (own_grown (Below.refl (w.heap.size + 1) w9) hz9 hown9 hg10)).mono (Nat.le_succ _))
  · go_enter Try.func16, Try.ntmps16
    go_wp2_with fail
    refine (number_any _ _ 2 rfl (by omega) (by omega) (by omega) _).mono ?_
    rintro e w1 ⟨n1, rfl, hn1o, hb1⟩
    have hown1 := HO.out.below hb1
    have hb1' := hb0.trans (hb1.mono (by simp))
    have hz1 : w.heap.size + 1 ≤ w1.heap.size := by have := hb1'.size; simpa using this
    rw [World.size_alloc] at hown1
    have c10 := (hb1'.cell (p := ⟨w.heap.size, 0, none⟩) (by simp)).trans HC.out.1
    have c12 := (hb1'.cell (p := ⟨w.heap.size, 2, none⟩) (by simp)).trans HC.out.2.2.1
    have c13 := (hb1'.cell (p := ⟨w.heap.size, 3, none⟩) (by simp)).trans HC.out.2.2.2
    clear hb1
    go_wp2_with (at_builtin; refine wpList_append8o rfl _ _ rfl (w.heap.size + 1) _ _ rfl hown1 _ n1 _ rfl hn1o (by simp [beB_length]) hz1 ?_; intro v2 w2 hown2 hg2; have hb2 := own_grown (Below.refl (w.heap.size + 1) w1) hz1 hown1 hg2; clear hg2; have c20 := (hb2.cell (p := ⟨w.heap.size, 0, none⟩) (by simp)).trans c10)
    have hz2 : w.heap.size + 1 ≤ w2.heap.size := by have := hb2.size; omega
    replace c12 := (hb2.cell (p := ⟨w.heap.size, 2, none⟩) (by simp)).trans c12
    replace c13 := (hb2.cell (p := ⟨w.heap.size, 3, none⟩) (by simp)).trans c13
    clear hown1 hn1o c10 c20
    refine (number_any _ _ 4 rfl (by omega) (by omega) (by omega) _).mono ?_
    rintro e w3 ⟨n3, rfl, hn3o, hb3⟩
    have hown3 := hown2.below hb3
    replace hb3 := hb3.mono hz2
    have hz3 : w.heap.size + 1 ≤ w3.heap.size := by have := hb3.size; omega
    replace c12 := (hb3.cell (p := ⟨w.heap.size, 2, none⟩) (by simp)).trans c12
    replace c13 := (hb3.cell (p := ⟨w.heap.size, 3, none⟩) (by simp)).trans c13
    clear hown2
    go_wp2_with (at_builtin; refine wpList_append8o rfl _ _ rfl (w.heap.size + 1) v2 _ rfl hown3 _ n3 _ rfl hn3o (by simp [beB_length]) hz3 ?_; intro v4 w4 hown4 hg4; have hb4 := own_grown (Below.refl (w.heap.size + 1) w3) hz3 hown3 hg4; clear hg4; have c40 := (hb4.cell (p := ⟨w.heap.size, 2, none⟩) (by simp)).trans c12)
    have hz4 : w.heap.size + 1 ≤ w4.heap.size := by have := hb4.size; omega
    replace c13 := (hb4.cell (p := ⟨w.heap.size, 3, none⟩) (by simp)).trans c13
    clear hown3 hn3o c12 c40
    refine (number_any _ _ 4 rfl (by omega) (by omega) (by omega) _).mono ?_
    rintro e w5 ⟨n5, rfl, hn5o, hb5⟩
    have hown5 := hown4.below hb5
    replace hb5 := hb5.mono hz4
    have hz5 : w.heap.size + 1 ≤ w5.heap.size := by have := hb5.size; omega
    replace c13 := (hb5.cell (p := ⟨w.heap.size, 3, none⟩) (by simp)).trans c13
    clear hown4
    go_wp2_with (first | (at_builtin; refine wpList_append8o rfl _ (.tmp 56) rfl (w.heap.size + 1) v4 _ rfl hown5 _ n5 _ rfl hn5o (by simp [beB_length]) hz5 ?_; intro v6 w6 hown6 hg6; have hb6 := own_grown (Below.refl (w.heap.size + 1) w5) hz5 hown5 hg6; clear hg6; replace c13 := (hb6.cell (p := ⟨w.heap.size, 3, none⟩) (by simp)).trans c13) | (refine wpList_toBytes rfl (.tmp 60) rfl id rfl (by unfold maxLen; omega) ?_; intro g7 c7 w7 hg7 hg7' hin7 hc7 hc7' hb7 _) | (at_builtin; refine wpList_append8 rfl _ (.tmp 61) rfl (w.heap.size + 1) v6 _ rfl (hown6.below hb7) _ _ _ id.data.toList HZ.out rfl hin7 (by simp [beB_length]; omega) (by have := hb6.size; have := hb7.size; omega) ?_; intro v8 w8 hown8 hg8 _))
    have hz6 : w.heap.size + 1 ≤ w6.heap.size := by have := hb6.size; omega
    have hz7 : w.heap.size + 1 ≤ w7.heap.size := by have := hb7.size; omega
    have hb8 := own_grown (Below.refl (w.heap.size + 1) w7) hz7 (hown6.below hb7) hg8
    have hz8 : w.heap.size + 1 ≤ w8.heap.size := by have := hb8.size; omega
    obtain ⟨L, hL⟩ : ∃ L, L = [ubyte (192 + 2)] ++ beB (id.size : Int).toNat 2 ++ beB seq.toNat 4 ++ beB no.toNat 4 ++ id.data.toList := ⟨_, rfl⟩
    rw [← hL] at hown8
    have hlen : L.length ≤ 100000 := by rw [hL]; simp [beB_length]; omega
    have HL := Lib.hid hL
    have hbase : Below (w.heap.size + 1) (w.alloc (.cells #[.int .i64 seq, .int .i64 2, .int .i64 no, .string id] 29)) w8 := ((((((hb1'.trans hb2).trans hb3).trans hb4).trans hb5).trans hb6).trans (hb7.mono hz6)).trans hb8
    clear hL hg8 hown5 hown6 hn5o c13 hin7 hb1' hb2 hb3 hb4 hb5 hb6 hb7 hb8
    refine (refSum_own hown8).mono ?_
    rintro e w9 ⟨rfl, rfl⟩
    have hcl := crc_lt L
    go_wp2_with fail
    refine (number_any _ _ 4 rfl (by omega) (by omega) (by omega) _).mono ?_
    rintro e w9 ⟨n9, rfl, hn9o, hb9⟩
    have hown9 := hown8.below hb9
    replace hbase := hbase.trans (hb9.mono hz8)
    have hz9 : w.heap.size + 1 ≤ w9.heap.size := by have := hb9.size; omega
    clear hown8 hb9
    go_wp2_with (at_builtin; refine wpList_append8o rfl _ (.tmp 66) rfl (w.heap.size + 1) v8 _ rfl hown9 _ n9 _ rfl hn9o (by simp [beB_length]; omega) hz9 ?_; intro v10 w10 hown10 hg10)
    go_ret2
    refine ⟨v10, rfl, ?_, ?_⟩
    · refine Own8.mono ?_ (Nat.le_succ _)
      have e : encAll seq.toNat (Int.toNat 2) no.toNat id.data.toList = L ++ beB ((crc L : Nat) : Int).toNat 4 := by
        unfold encAll encBody; rw [← H192.out, HZ.out, HL.out]; rfl
      rw [e]; exact hown10
    · exact hbw.trans ((hbase.trans (own_grown (Below.refl (w.heap.size + 1) w9) hz9 hown9 hg10)).mono (Nat.le_succ _))
theorem refEnc_bad1 (seq op no : Int) (id : ByteArray) (h1 : ¬ op = 1) (h2 : ¬ op = 2) (w : World) :
    Calls Try.prog 16 #[.agg #[.int .i64 seq, .int .i64 op, .int .i64 no, .string id]] w fun e w' => e = .returned (.tuple #[.slice none 0 0, .int .i64 100]) ∧ Below w.heap.size w w' := by
  have b1 : (op != 1) = true := by simp [h1]
  have b2 : (op != 2) = true := by simp [h2]
  clear h1 h2
  go_enter Try.func16, Try.ntmps16
  go_wp2_with fail
  go_ret2
  exact ⟨rfl, (Below.refl _ _).alloc (Nat.le_refl _) _⟩
theorem refEnc_bad2a (seq op no : Int) (id : ByteArray) (hop : op = 1 ∨ op = 2) (h : seq < 0) (w : World) :
    Calls Try.prog 16 #[.agg #[.int .i64 seq, .int .i64 op, .int .i64 no, .string id]] w fun e w' => e = .returned (.tuple #[.slice none 0 0, .int .i64 100]) ∧ Below w.heap.size w w' := by
  rcases hop with rfl | rfl
  all_goals
    go_enter Try.func16, Try.ntmps16
    go_wp2_with fail
    go_ret2
    exact ⟨rfl, (Below.refl _ _).alloc (Nat.le_refl _) _⟩
theorem refEnc_bad2b (seq op no : Int) (id : ByteArray) (hop : op = 1 ∨ op = 2) (h0 : 0 ≤ seq) (h : 4294967295 < seq) (w : World) :
    Calls Try.prog 16 #[.agg #[.int .i64 seq, .int .i64 op, .int .i64 no, .string id]] w fun e w' => e = .returned (.tuple #[.slice none 0 0, .int .i64 100]) ∧ Below w.heap.size w w' := by
  rcases hop with rfl | rfl
  all_goals
    go_enter Try.func16, Try.ntmps16
    go_wp2_with fail
    go_ret2
    exact ⟨rfl, (Below.refl _ _).alloc (Nat.le_refl _) _⟩
theorem refEnc_bad3a (seq op no : Int) (id : ByteArray) (hop : op = 1 ∨ op = 2) (h0 : 0 ≤ seq) (h1 : seq ≤ 4294967295) (h : no < 0) (w : World) :
    Calls Try.prog 16 #[.agg #[.int .i64 seq, .int .i64 op, .int .i64 no, .string id]] w fun e w' => e = .returned (.tuple #[.slice none 0 0, .int .i64 100]) ∧ Below w.heap.size w w' := by
  rcases hop with rfl | rfl
  all_goals
    go_enter Try.func16, Try.ntmps16
    go_wp2_with fail
    go_ret2
    exact ⟨rfl, (Below.refl _ _).alloc (Nat.le_refl _) _⟩
theorem refEnc_bad3b (seq op no : Int) (id : ByteArray) (hop : op = 1 ∨ op = 2) (h0 : 0 ≤ seq) (h1 : seq ≤ 4294967295) (h2 : 0 ≤ no) (h : 4294967295 < no) (w : World) :
    Calls Try.prog 16 #[.agg #[.int .i64 seq, .int .i64 op, .int .i64 no, .string id]] w fun e w' => e = .returned (.tuple #[.slice none 0 0, .int .i64 100]) ∧ Below w.heap.size w w' := by
  rcases hop with rfl | rfl
  all_goals
    go_enter Try.func16, Try.ntmps16
    go_wp2_with fail
    go_ret2
    exact ⟨rfl, (Below.refl _ _).alloc (Nat.le_refl _) _⟩
theorem refEnc_bad4 (seq op no : Int) (id : ByteArray) (hop : op = 1 ∨ op = 2) (h0 : 0 ≤ seq) (h1 : seq ≤ 4294967295) (h2 : 0 ≤ no) (h3 : no ≤ 4294967295) (hid : 4096 < id.size) (w : World) :
    Calls Try.prog 16 #[.agg #[.int .i64 seq, .int .i64 op, .int .i64 no, .string id]] w fun e w' => e = .returned (.tuple #[.slice none 0 0, .int .i64 101]) ∧ Below w.heap.size w w' := by
  rcases hop with rfl | rfl
  all_goals
    go_enter Try.func16, Try.ntmps16
    go_wp2_with fail
    go_ret2
    exact ⟨rfl, (Below.refl _ _).alloc (Nat.le_refl _) _⟩

theorem refEnc_any (seq op no : Int) (id : ByteArray) (w : World) :
    Calls Try.prog 16 #[.agg #[.int .i64 seq, .int .i64 op, .int .i64 no, .string id]] w fun e w' => ∃ v, e = .returned (.tuple #[v, .int .i64 (encErr seq op no id.size)]) ∧ Own8 w' w.heap.size v (encOf seq op no id.data.toList) ∧ Below w.heap.size w w' := by
  have hz : id.data.toList.length = id.size := by rw [Array.length_toList]; rfl
  have bad : ∀ c : Int, c ≠ 0 → encErr seq op no id.size = c → ∀ (e : Ending) (w' : World), (e = .returned (.tuple #[.slice none 0 0, .int .i64 c]) ∧ Below w.heap.size w w') → ∃ v, e = .returned (.tuple #[v, .int .i64 (encErr seq op no id.size)]) ∧ Own8 w' w.heap.size v (encOf seq op no id.data.toList) ∧ Below w.heap.size w w' := by
    rintro c hc he e w' ⟨rfl, hb⟩
    refine ⟨_, by rw [he], ?_, hb⟩
    have : encOf seq op no id.data.toList = [] := by unfold encOf; rw [hz, he, if_neg hc]
    rw [this]; exact Own8.nil _ _
  by_cases hop : op = 1 ∨ op = 2
  · by_cases hs : 0 ≤ seq ∧ seq ≤ 4294967295
    · by_cases hn : 0 ≤ no ∧ no ≤ 4294967295
      · by_cases hid : 4096 < id.size
        · exact (refEnc_bad4 seq op no id hop hs.1 hs.2 hn.1 hn.2 hid w).mono (bad 101 (by decide) (by unfold encErr; rw [if_neg (by simp [hop, hs, hn]), if_pos hid]))
        · have he : encErr seq op no id.size = 0 := by unfold encErr; rw [if_neg (by simp [hop, hs, hn]), if_neg hid]
          have hf : encOf seq op no id.data.toList = encAll seq.toNat op.toNat no.toNat id.data.toList := by unfold encOf; rw [hz, he, if_pos rfl]
          rw [he, hf]
          exact refEnc_ok seq op no id hop hs.1 hs.2 hn.1 hn.2 (by omega) w
      · have bd := bad 100 (by decide) (by unfold encErr; rw [if_pos (Or.inr (Or.inr hn))])
        by_cases h : no < 0
        · exact (refEnc_bad3a seq op no id hop hs.1 hs.2 h w).mono bd
        · exact (refEnc_bad3b seq op no id hop hs.1 hs.2 (by omega) (by omega) w).mono bd
    · have bd := bad 100 (by decide) (by unfold encErr; rw [if_pos (Or.inr (Or.inl hs))])
      by_cases h : seq < 0
      · exact (refEnc_bad2a seq op no id hop h w).mono bd
      · exact (refEnc_bad2b seq op no id hop (by omega) (by omega) w).mono bd
  · exact (refEnc_bad1 seq op no id (fun h => hop (.inl h)) (fun h => hop (.inr h)) w).mono (bad 100 (by decide) (by unfold encErr; rw [if_pos (Or.inl hop)]))
end Go.Proofs.Ytfcdnjbahghllaa
