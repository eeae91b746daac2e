/-
  The document's Encode: what it writes.
-/
import Derived.Test.YtheoklhmlnfgjaaGreatDoorPk1
import Derived.Test.YtheoklhmlnfgjaaGreatDoorPk0
import Derived.Test.YtheoklhmlnfgjaaGreatDoorRows
import Derived.Lib.LaidU8
import Derived.LaidLaws
namespace Go.Proofs.YtheoklhmlnfgjaaGreatDoor
open Go.RowKit

set_option maxHeartbeats 2000000 in
theorem refEnc_ok (seq op no : Int) (id : ByteArray) (hop : op = 1 ∨ op = 2) (hs0 : 0 ≤ seq) (hs1 : seq ≤ 4294967295) (hn0 : 0 ≤ no) (hn1 : no ≤ 4294967295) (hid : id.size ≤ 4096) (w : World) :
    Calls Tryz.prog 58 #[.agg #[.int .i64 seq, .int .i64 op, .int .i64 no, .string id]] w fun e w' => ∃ v, e = .returned (.tuple #[v, .int .i64 0]) ∧ Own8 w' w.heap.size v (encAll seq.toNat op.toNat no.toNat id.data.toList) ∧ Below w.heap.size w w' := by
  have hz : id.data.toList.length = id.size := by rw [Array.length_toList]; rfl
  have HZ := Lib.hid hz
  have hc := cells4_at w (.int .i64 seq) (.int .i64 op) (.int .i64 no) (.string id) 35
  have HC := Lib.hid hc
  have hol := Own8.lit (w.alloc (.cells #[.int .i64 seq, .int .i64 op, .int .i64 no, .string id] 35)) (192 + op) (by omega) (by omega)
  have HO := Lib.hid hol
  have hb0 : Below (w.heap.size + 1) (w.alloc (.cells #[.int .i64 seq, .int .i64 op, .int .i64 no, .string id] 35)) ((w.alloc (.cells #[.int .i64 seq, .int .i64 op, .int .i64 no, .string id] 35)).alloc (.cells #[.int .u8 (192 + op)] 5)) := (Below.refl _ _).alloc (by simp) _
  have hbw : Below w.heap.size w (w.alloc (.cells #[.int .i64 seq, .int .i64 op, .int .i64 no, .string id] 35)) := (Below.refl _ _).alloc (Nat.le_refl _) _
  clear hz hc hol
  have h192 : ubyte (192 + op) = UInt8.ofNat (192 + op.toNat) := by unfold ubyte; congr 1; omega
  have H192 := Lib.hid h192
  clear h192
  rcases hop with rfl | rfl
  · go_enter Tryz.func58, Tryz.ntmps58
    go_wp2_with fail
    refine (number_any _ _ 2 rfl (by omega) (by omega) (by omega) _).mono ?_
    rintro e w1 ⟨n1, rfl, hn1o, hb1⟩
    have hown1 := HO.out.below hb1
    have hb1' := hb0.trans (hb1.mono (by simp))
    have hz1 : w.heap.size + 1 ≤ w1.heap.size := by have := hb1'.size; simpa using this
    rw [World.size_alloc] at hown1
    have c10 := (hb1'.cell (p := ⟨w.heap.size, 0, none⟩) (by simp)).trans HC.out.1
    have c12 := (hb1'.cell (p := ⟨w.heap.size, 2, none⟩) (by simp)).trans HC.out.2.2.1
    have c13 := (hb1'.cell (p := ⟨w.heap.size, 3, none⟩) (by simp)).trans HC.out.2.2.2
    clear hb1
    go_wp2_with (at_builtin; refine wpList_append8o rfl _ _ rfl (w.heap.size + 1) _ _ rfl hown1 _ n1 _ rfl hn1o (by simp [beB_length]) hz1 ?_; intro v2 w2 hown2 hg2; have hb2 := own_grown (Below.refl (w.heap.size + 1) w1) hz1 hown1 hg2; clear hg2; have c20 := (hb2.cell (p := ⟨w.heap.size, 0, none⟩) (by simp)).trans c10)
    have hz2 : w.heap.size + 1 ≤ w2.heap.size := by have := hb2.size; omega
    replace c12 := (hb2.cell (p := ⟨w.heap.size, 2, none⟩) (by simp)).trans c12
    replace c13 := (hb2.cell (p := ⟨w.heap.size, 3, none⟩) (by simp)).trans c13
    clear hown1 hn1o c10 c20
    refine (number_any _ _ 4 rfl (by omega) (by omega) (by omega) _).mono ?_
    rintro e w3 ⟨n3, rfl, hn3o, hb3⟩
    have hown3 := hown2.below hb3
    replace hb3 := hb3.mono hz2
    have hz3 : w.heap.size + 1 ≤ w3.heap.size := by have := hb3.size; omega
    replace c12 := (hb3.cell (p := ⟨w.heap.size, 2, none⟩) (by simp)).trans c12
    replace c13 := (hb3.cell (p := ⟨w.heap.size, 3, none⟩) (by simp)).trans c13
    clear hown2
    go_wp2_with (at_builtin; refine wpList_append8o rfl _ _ rfl (w.heap.size + 1) v2 _ rfl hown3 _ n3 _ rfl hn3o (by simp [beB_length]) hz3 ?_; intro v4 w4 hown4 hg4; have hb4 := own_grown (Below.refl (w.heap.size + 1) w3) hz3 hown3 hg4; clear hg4; have c40 := (hb4.cell (p := ⟨w.heap.size, 2, none⟩) (by simp)).trans c12)
    have hz4 : w.heap.size + 1 ≤ w4.heap.size := by have := hb4.size; omega
    replace c13 := (hb4.cell (p := ⟨w.heap.size, 3, none⟩) (by simp)).trans c13
    clear hown3 hn3o c12 c40
    refine (number_any _ _ 4 rfl (by omega) (by omega) (by omega) _).mono ?_
    rintro e w5 ⟨n5, rfl, hn5o, hb5⟩
    have hown5 := hown4.below hb5
    replace hb5 := hb5.mono hz4
    have hz5 : w.heap.size + 1 ≤ w5.heap.size := by have := hb5.size; omega
    replace c13 := (hb5.cell (p := ⟨w.heap.size, 3, none⟩) (by simp)).trans c13
    clear hown4
    go_wp2_with (first | (at_builtin; refine wpList_append8o rfl _ (.tmp 56) rfl (w.heap.size + 1) v4 _ rfl hown5 _ n5 _ rfl hn5o (by simp [beB_length]) hz5 ?_; intro v6 w6 hown6 hg6; have hb6 := own_grown (Below.refl (w.heap.size + 1) w5) hz5 hown5 hg6; clear hg6; replace c13 := (hb6.cell (p := ⟨w.heap.size, 3, none⟩) (by simp)).trans c13) | (refine wpList_toBytes rfl (.tmp 60) rfl id rfl (by unfold maxLen; omega) ?_; intro g7 c7 w7 hg7 hg7' hin7 hc7 hc7' hb7 _) | (at_builtin; refine wpList_append8 rfl _ (.tmp 61) rfl (w.heap.size + 1) v6 _ rfl (hown6.below hb7) _ _ _ id.data.toList HZ.out rfl hin7 (by simp [beB_length]; omega) (by have := hb6.size; have := hb7.size; omega) ?_; intro v8 w8 hown8 hg8 _))
    have hz6 : w.heap.size + 1 ≤ w6.heap.size := by have := hb6.size; omega
    have hz7 : w.heap.size + 1 ≤ w7.heap.size := by have := hb7.size; omega
    have hb8 := own_grown (Below.refl (w.heap.size + 1) w7) hz7 (hown6.below hb7) hg8
    have hz8 : w.heap.size + 1 ≤ w8.heap.size := by have := hb8.size; omega
    obtain ⟨L, hL⟩ : ∃ L, L = [ubyte (192 + 1)] ++ beB (id.size : Int).toNat 2 ++ beB seq.toNat 4 ++ beB no.toNat 4 ++ id.data.toList := ⟨_, rfl⟩
    rw [← hL] at hown8
    have hlen : L.length ≤ 100000 := by rw [hL]; simp [beB_length]; omega
    have HL := Lib.hid hL
    have hbase : Below (w.heap.size + 1) (w.alloc (.cells #[.int .i64 seq, .int .i64 1, .int .i64 no, .string id] 35)) w8 := ((((((hb1'.trans hb2).trans hb3).trans hb4).trans hb5).trans hb6).trans (hb7.mono hz6)).trans hb8
    clear hL hg8 hown5 hown6 hn5o c13 hin7 hb1' hb2 hb3 hb4 hb5 hb6 hb7 hb8
    refine (refSum_own hown8).mono ?_
    rintro e w9 ⟨rfl, rfl⟩
    have hcl := crc_lt L
    go_wp2_with fail
    refine (number_any _ _ 4 rfl (by omega) (by omega) (by omega) _).mono ?_
    rintro e w9 ⟨n9, rfl, hn9o, hb9⟩
    have hown9 := hown8.below hb9
    replace hbase := hbase.trans (hb9.mono hz8)
    have hz9 : w.heap.size + 1 ≤ w9.heap.size := by have := hb9.size; omega
    clear hown8 hb9
    go_wp2_with (at_builtin; refine wpList_append8o rfl _ (.tmp 66) rfl (w.heap.size + 1) v8 _ rfl hown9 _ n9 _ rfl hn9o (by simp [beB_length]; omega) hz9 ?_; intro v10 w10 hown10 hg10)
    go_ret2
    refine ⟨v10, rfl, ?_, ?_⟩
    · refine Own8.mono ?_ (Nat.le_succ _)
      have e : encAll seq.toNat (Int.toNat 1) no.toNat id.data.toList = L ++ beB ((crc L : Nat) : Int).toNat 4 := by
        unfold encAll encBody; rw [← H192.out, HZ.out, HL.out]; rfl
      rw [e]; exact hown10
    · exact hbw.trans ((hbase.trans (own_grown (Below.refl (w.heap.size + 1) w9) hz9 hown9 hg10)).mono (Nat.le_succ _))
  · go_enter Tryz.func58, Tryz.ntmps58
    go_wp2_with fail
    refine (number_any _ _ 2 rfl (by omega) (by omega) (by omega) _).mono ?_
    rintro e w1 ⟨n1, rfl, hn1o, hb1⟩
    have hown1 := HO.out.below hb1
    have hb1' := hb0.trans (hb1.mono (by simp))
    have hz1 : w.heap.size + 1 ≤ w1.heap.size := by have := hb1'.size; simpa using this
    rw [World.size_alloc] at hown1
    have c10 := (hb1'.cell (p := ⟨w.heap.size, 0, none⟩) (by simp)).trans HC.out.1
    have c12 := (hb1'.cell (p := ⟨w.heap.size, 2, none⟩) (by simp)).trans HC.out.2.2.1
    have c13 := (hb1'.cell (p := ⟨w.heap.size, 3, none⟩) (by simp)).trans HC.out.2.2.2
    clear hb1
    go_wp2_with (at_builtin; refine wpList_append8o rfl _ _ rfl (w.heap.size + 1) _ _ rfl hown1 _ n1 _ rfl hn1o (by simp [beB_length]) hz1 ?_; intro v2 w2 hown2 hg2; have hb2 := own_grown (Below.refl (w.heap.size + 1) w1) hz1 hown1 hg2; clear hg2; have c20 := (hb2.cell (p := ⟨w.heap.size, 0, none⟩) (by simp)).trans c10)
    have hz2 : w.heap.size + 1 ≤ w2.heap.size := by have := hb2.size; omega
    replace c12 := (hb2.cell (p := ⟨w.heap.size, 2, none⟩) (by simp)).trans c12
    replace c13 := (hb2.cell (p := ⟨w.heap.size, 3, none⟩) (by simp)).trans c13
    clear hown1 hn1o c10 c20
    refine (number_any _ _ 4 rfl (by omega) (by omega) (by omega) _).mono ?_
    rintro e w3 ⟨n3, rfl, hn3o, hb3⟩
    have hown3 := hown2.below hb3
    replace hb3 := hb3.mono hz2
    have hz3 : w.heap.size + 1 ≤ w3.heap.size := by have := hb3.size; omega
    replace c12 := (hb3.cell (p := ⟨w.heap.size, 2, none⟩) (by simp)).trans c12
    replace c13 := (hb3.cell (p := ⟨w.heap.size, 3, none⟩) (by simp)).trans c13
    clear hown2
    go_wp2_with (at_builtin; refine wpList_append8o rfl _ _ rfl (w.heap.size + 1) v2 _ rfl hown3 _ n3 _ rfl hn3o (by simp [beB_length]) hz3 ?_; intro v4 w4 hown4 hg4; have hb4 := own_grown (Below.refl (w.heap.size + 1) w3) hz3 hown3 hg4; clear hg4; have c40 := (hb4.cell (p := ⟨w.heap.size, 2, none⟩) (by simp)).trans c12)
    have hz4 : w.heap.size + 1 ≤ w4.heap.size := by have := hb4.size; omega
    replace c13 := (hb4.cell (p := ⟨w.heap.size, 3, none⟩) (by simp)).trans c13
    clear hown3 hn3o c12 c40
    refine (number_any _ _ 4 rfl (by omega) (by omega) (by omega) _).mono ?_
    rintro e w5 ⟨n5, rfl, hn5o, hb5⟩
    have hown5 := hown4.below hb5
    replace hb5 := hb5.mono hz4
    have hz5 : w.heap.size + 1 ≤ w5.heap.size := by have := hb5.size; omega
    replace c13 := (hb5.cell (p := ⟨w.heap.size, 3, none⟩) (by simp)).trans c13
    clear hown4
    go_wp2_with (first | (at_builtin; refine wpList_append8o rfl _ (.tmp 56) rfl (w.heap.size + 1) v4 _ rfl hown5 _ n5 _ rfl hn5o (by simp [beB_length]) hz5 ?_; intro v6 w6 hown6 hg6; have hb6 := own_grown (Below.refl (w.heap.size + 1) w5) hz5 hown5 hg6; clear hg6; replace c13 := (hb6.cell (p := ⟨w.heap.size, 3, none⟩) (by simp)).trans c13) | (refine wpList_toBytes rfl (.tmp 60) rfl id rfl (by unfold maxLen; omega) ?_; intro g7 c7 w7 hg7 hg7' hin7 hc7 hc7' hb7 _) | (at_builtin; refine wpList_append8 rfl _ (.tmp 61) rfl (w.heap.size + 1) v6 _ rfl (hown6.below hb7) _ _ _ id.data.toList HZ.out rfl hin7 (by simp [beB_length]; omega) (by have := hb6.size; have := hb7.size; omega) ?_; intro v8 w8 hown8 hg8 _))
    have hz6 : w.heap.size + 1 ≤ w6.heap.size := by have := hb6.size; omega
    have hz7 : w.heap.size + 1 ≤ w7.heap.size := by have := hb7.size; omega
    have hb8 := own_grown (Below.refl (w.heap.size + 1) w7) hz7 (hown6.below hb7) hg8
    have hz8 : w.heap.size + 1 ≤ w8.heap.size := by have := hb8.size; omega
    obtain ⟨L, hL⟩ : ∃ L, L = [ubyte (192 + 2)] ++ beB (id.size : Int).toNat 2 ++ beB seq.toNat 4 ++ beB no.toNat 4 ++ id.data.toList := ⟨_, rfl⟩
    rw [← hL] at hown8
    have hlen : L.length ≤ 100000 := by rw [hL]; simp [beB_length]; omega
    have HL := Lib.hid hL
    have hbase : Below (w.heap.size + 1) (w.alloc (.cells #[.int .i64 seq, .int .i64 2, .int .i64 no, .string id] 35)) w8 := ((((((hb1'.trans hb2).trans hb3).trans hb4).trans hb5).trans hb6).trans (hb7.mono hz6)).trans hb8
    clear hL hg8 hown5 hown6 hn5o c13 hin7 hb1' hb2 hb3 hb4 hb5 hb6 hb7 hb8
    refine (refSum_own hown8).mono ?_
    rintro e w9 ⟨rfl, rfl⟩
    have hcl := crc_lt L
    go_wp2_with fail
    refine (number_any _ _ 4 rfl (by omega) (by omega) (by omega) _).mono ?_
    rintro e w9 ⟨n9, rfl, hn9o, hb9⟩
    have hown9 := hown8.below hb9
    replace hbase := hbase.trans (hb9.mono hz8)
    have hz9 : w.heap.size + 1 ≤ w9.heap.size := by have := hb9.size; omega
    clear hown8 hb9
    go_wp2_with (at_builtin; refine wpList_append8o rfl _ (.tmp 66) rfl (w.heap.size + 1) v8 _ rfl hown9 _ n9 _ rfl hn9o (by simp [beB_length]; omega) hz9 ?_; intro v10 w10 hown10 hg10)
    go_ret2
    refine ⟨v10, rfl, ?_, ?_⟩
    · refine Own8.mono ?_ (Nat.le_succ _)
      have e : encAll seq.toNat (Int.toNat 2) no.toNat id.data.toList = L ++ beB ((crc L : Nat) : Int).toNat 4 := by
        unfold encAll encBody; rw [← H192.out, HZ.out, HL.out]; rfl
      rw [e]; exact hown10
    · exact hbw.trans ((hbase.trans (own_grown (Below.refl (w.heap.size + 1) w9) hz9 hown9 hg10)).mono (Nat.le_succ _))
theorem refEnc_bad1 (seq op no : Int) (id : ByteArray) (h1 : ¬ op = 1) (h2 : ¬ op = 2) (w : World) :
    Calls Tryz.prog 58 #[.agg #[.int .i64 seq, .int .i64 op, .int .i64 no, .string id]] w fun e w' => e = .returned (.tuple #[.slice none 0 0, .int .i64 100]) ∧ Below w.heap.size w w' := by
  have b1 : (op != 1) = true := by simp [h1]
  have b2 : (op != 2) = true := by simp [h2]
  clear h1 h2
  go_enter Tryz.func58, Tryz.ntmps58
  go_wp2_with fail
  go_ret2
  exact ⟨rfl, (Below.refl _ _).alloc (Nat.le_refl _) _⟩
theorem refEnc_bad2a (seq op no : Int) (id : ByteArray) (hop : op = 1 ∨ op = 2) (h : seq < 0) (w : World) :
    Calls Tryz.prog 58 #[.agg #[.int .i64 seq, .int .i64 op, .int .i64 no, .string id]] w fun e w' => e = .returned (.tuple #[.slice none 0 0, .int .i64 100]) ∧ Below w.heap.size w w' := by
  rcases hop with rfl | rfl
  all_goals
    go_enter Tryz.func58, Tryz.ntmps58
    go_wp2_with fail
    go_ret2
    exact ⟨rfl, (Below.refl _ _).alloc (Nat.le_refl _) _⟩
theorem refEnc_bad2b (seq op no : Int) (id : ByteArray) (hop : op = 1 ∨ op = 2) (h0 : 0 ≤ seq) (h : 4294967295 < seq) (w : World) :
    Calls Tryz.prog 58 #[.agg #[.int .i64 seq, .int .i64 op, .int .i64 no, .string id]] w fun e w' => e = .returned (.tuple #[.slice none 0 0, .int .i64 100]) ∧ Below w.heap.size w w' := by
  rcases hop with rfl | rfl
  all_goals
    go_enter Tryz.func58, Tryz.ntmps58
    go_wp2_with fail
    go_ret2
    exact ⟨rfl, (Below.refl _ _).alloc (Nat.le_refl _) _⟩
theorem refEnc_bad3a (seq op no : Int) (id : ByteArray) (hop : op = 1 ∨ op = 2) (h0 : 0 ≤ seq) (h1 : seq ≤ 4294967295) (h : no < 0) (w : World) :
    Calls Tryz.prog 58 #[.agg #[.int .i64 seq, .int .i64 op, .int .i64 no, .string id]] w fun e w' => e = .returned (.tuple #[.slice none 0 0, .int .i64 100]) ∧ Below w.heap.size w w' := by
  rcases hop with rfl | rfl
  all_goals
    go_enter Tryz.func58, Tryz.ntmps58
    go_wp2_with fail
    go_ret2
    exact ⟨rfl, (Below.refl _ _).alloc (Nat.le_refl _) _⟩
theorem refEnc_bad3b (seq op no : Int) (id : ByteArray) (hop : op = 1 ∨ op = 2) (h0 : 0 ≤ seq) (h1 : seq ≤ 4294967295) (h2 : 0 ≤ no) (h : 4294967295 < no) (w : World) :
    Calls Tryz.prog 58 #[.agg #[.int .i64 seq, .int .i64 op, .int .i64 no, .string id]] w fun e w' => e = .returned (.tuple #[.slice none 0 0, .int .i64 100]) ∧ Below w.heap.size w w' := by
  rcases hop with rfl | rfl
  all_goals
    go_enter Tryz.func58, Tryz.ntmps58
    go_wp2_with fail
    go_ret2
    exact ⟨rfl, (Below.refl _ _).alloc (Nat.le_refl _) _⟩
theorem refEnc_bad4 (seq op no : Int) (id : ByteArray) (hop : op = 1 ∨ op = 2) (h0 : 0 ≤ seq) (h1 : seq ≤ 4294967295) (h2 : 0 ≤ no) (h3 : no ≤ 4294967295) (hid : 4096 < id.size) (w : World) :
    Calls Tryz.prog 58 #[.agg #[.int .i64 seq, .int .i64 op, .int .i64 no, .string id]] w fun e w' => e = .returned (.tuple #[.slice none 0 0, .int .i64 101]) ∧ Below w.heap.size w w' := by
  rcases hop with rfl | rfl
  all_goals
    go_enter Tryz.func58, Tryz.ntmps58
    go_wp2_with fail
    go_ret2
    exact ⟨rfl, (Below.refl _ _).alloc (Nat.le_refl _) _⟩

theorem refEnc_any (seq op no : Int) (id : ByteArray) (w : World) :
    Calls Tryz.prog 58 #[.agg #[.int .i64 seq, .int .i64 op, .int .i64 no, .string id]] w fun e w' => ∃ v, e = .returned (.tuple #[v, .int .i64 (encErr seq op no id.size)]) ∧ Own8 w' w.heap.size v (encOf seq op no id.data.toList) ∧ Below w.heap.size w w' := by
  have hz : id.data.toList.length = id.size := by rw [Array.length_toList]; rfl
  have bad : ∀ c : Int, c ≠ 0 → encErr seq op no id.size = c → ∀ (e : Ending) (w' : World), (e = .returned (.tuple #[.slice none 0 0, .int .i64 c]) ∧ Below w.heap.size w w') → ∃ v, e = .returned (.tuple #[v, .int .i64 (encErr seq op no id.size)]) ∧ Own8 w' w.heap.size v (encOf seq op no id.data.toList) ∧ Below w.heap.size w w' := by
    rintro c hc he e w' ⟨rfl, hb⟩
    refine ⟨_, by rw [he], ?_, hb⟩
    have : encOf seq op no id.data.toList = [] := by unfold encOf; rw [hz, he, if_neg hc]
    rw [this]; exact Own8.nil _ _
  by_cases hop : op = 1 ∨ op = 2
  · by_cases hs : 0 ≤ seq ∧ seq ≤ 4294967295
    · by_cases hn : 0 ≤ no ∧ no ≤ 4294967295
      · by_cases hid : 4096 < id.size
        · exact (refEnc_bad4 seq op no id hop hs.1 hs.2 hn.1 hn.2 hid w).mono (bad 101 (by decide) (by unfold encErr; rw [if_neg (by simp [hop, hs, hn]), if_pos hid]))
        · have he : encErr seq op no id.size = 0 := by unfold encErr; rw [if_neg (by simp [hop, hs, hn]), if_neg hid]
          have hf : encOf seq op no id.data.toList = encAll seq.toNat op.toNat no.toNat id.data.toList := by unfold encOf; rw [hz, he, if_pos rfl]
          rw [he, hf]
          exact refEnc_ok seq op no id hop hs.1 hs.2 hn.1 hn.2 (by omega) w
      · have bd := bad 100 (by decide) (by unfold encErr; rw [if_pos (Or.inr (Or.inr hn))])
        by_cases h : no < 0
        · exact (refEnc_bad3a seq op no id hop hs.1 hs.2 h w).mono bd
        · exact (refEnc_bad3b seq op no id hop hs.1 hs.2 (by omega) (by omega) w).mono bd
    · have bd := bad 100 (by decide) (by unfold encErr; rw [if_pos (Or.inr (Or.inl hs))])
      by_cases h : seq < 0
      · exact (refEnc_bad2a seq op no id hop h w).mono bd
      · exact (refEnc_bad2b seq op no id hop (by omega) (by omega) w).mono bd
  · exact (refEnc_bad1 seq op no id (fun h => hop (.inl h)) (fun h => hop (.inr h)) w).mono (bad 100 (by decide) (by unfold encErr; rw [if_pos (Or.inl hop)]))
end Go.Proofs.YtheoklhmlnfgjaaGreatDoor
/-
  An argument that is a row of records, weighed.
-/
namespace Go.Proofs.YtheoklhmlnfgjaaGreatDoor
open Go.ChangeShapes Go.WideShapes Go.ChangeAt Go.RowKit
set_option linter.unusedVariables false

theorem cellsRc11 : Tryz.prog.cellsOf 35 = 4 := by kernel_rfl
theorem cellsRs11 : Tryz.prog.cellsOf 25 = 1 := by kernel_rfl
theorem rc_at (L : List Rcd) (j : Nat) (v : Value) (h : (rc L)[j]? = some v) : ∃ i, ∃ hi : i < L.length, (j = i * 4 ∧ v = .int .i64 L[i].seq) ∨ (j = i * 4 + 1 ∧ v = .int .i64 L[i].op) ∨ (j = i * 4 + 2 ∧ v = .int .i64 L[i].no) ∨ (j = i * 4 + 3 ∧ v = .string ⟨L[i].ident.toArray⟩) := by
  have hj : j < L.length * 4 := by rw [← rc_length]; exact (List.getElem?_eq_some_iff.1 h).1
  have hi : j / 4 < L.length := by omega
  obtain ⟨h0, h1, h2, h3⟩ := rc_get L (j / 4) hi
  refine ⟨j / 4, hi, ?_⟩
  have h4 : j % 4 = 0 ∨ j % 4 = 1 ∨ j % 4 = 2 ∨ j % 4 = 3 := by omega
  rcases h4 with e | e | e | e
  · rw [show j / 4 * 4 = j by omega, h] at h0
    exact .inl ⟨by omega, Option.some.inj h0⟩
  · rw [show j / 4 * 4 + 1 = j by omega, h] at h1
    exact .inr (.inl ⟨by omega, Option.some.inj h1⟩)
  · rw [show j / 4 * 4 + 2 = j by omega, h] at h2
    exact .inr (.inr (.inl ⟨by omega, Option.some.inj h2⟩))
  · rw [show j / 4 * 4 + 3 = j by omega, h] at h3
    exact .inr (.inr (.inr ⟨by omega, Option.some.inj h3⟩))
section
variable {H : Type} {enc : TypeId × Value → H} {W : World} {fuel : Nat} {cs : List Value} {d : DataW H} {ps : List MemPlace}
set_option maxRecDepth 100000 in
theorem open_recsC (hf : DataW.trod enc Tryz.prog W 0 (fun _ => true) true fuel 25 cs = some (d, ps)) : ∃ p L c, cs = [.slice p (List.length L) c] ∧ InRc W p L ∧ L.length + 1 ≤ Rows.uptoBulk d := by
  rcases Go.Deep.open_slice Tryz.underlying25 hf with ⟨hcs, hx⟩ | ⟨x, l, c, m, n, D, Pl, hcs, _, hl, hm, hmm, hx, hat⟩
  · simp only [Prod.mk.injEq] at hx
    refine ⟨none, [], 0, hcs, InRc.nil _ _, ?_⟩
    rw [hx.1]
    simp [Rows.uptoBulk]
  · simp only [if_true] at hmm
    subst hmm
    simp only [Prod.mk.injEq] at hx
    have each : ∀ i, i < m → ∃ q : Int × Int × Int × ByteArray, W.cell? (x.add (i * 4)) = some (.int .i64 q.1) ∧ W.cell? (x.add (i * 4 + 1)) = some (.int .i64 q.2.1) ∧ W.cell? (x.add (i * 4 + 2)) = some (.int .i64 q.2.2.1) ∧ W.cell? (x.add (i * 4 + 3)) = some (.string q.2.2.2) ∧ 1 ≤ Rows.uptoBulk (D i) := by
      intro i hi
      obtain ⟨cs', h1, h2⟩ := hat i hi
      rw [cellsRc11] at h1
      obtain ⟨_, hlen, hcell⟩ := World.cells?_some h1
      obtain ⟨xs, k, hk, hxy, _, hxl, hat2⟩ := DataW.trod_struct Tryz.underlying35 h2
      match xs, hxl, cs', hlen with
      | [y0, y1, y2, y3], _, [v0, v1, v2, v3], _ =>
        have g0 := hat2 0 _ rfl
        have g1 := hat2 1 _ rfl
        have g2 := hat2 2 _ rfl
        have g3 := hat2 3 _ rfl
        simp [cellsI9, cellsS9] at g0 g1 g2 g3
        have e0 := hcell 0 (by omega)
        have e1 := hcell 1 (by omega)
        have e2 := hcell 2 (by omega)
        have e3 := hcell 3 (by omega)
        rw [Go.Deep.add_add] at e0 e1 e2 e3
        obtain ⟨a, f0, rfl, _⟩ := DataW.trod_int Tryz.underlying3 g0
        obtain ⟨a2, f1, rfl, _⟩ := DataW.trod_int Tryz.underlying3 g1
        obtain ⟨a3, f2, rfl, _⟩ := DataW.trod_int Tryz.underlying3 g2
        obtain ⟨na, f3, rfl, _⟩ := DataW.trod_string Tryz.underlying9 g3
        simp at f0 f1 f2 f3
        subst f0 f1 f2 f3
        refine ⟨(a, a2, a3, na), by simpa using e0, by simpa using e1, by simpa using e2, by simpa using e3, ?_⟩
        simp only [Prod.mk.injEq] at hxy
        rw [hxy.1]
        simp only [List.map_cons, List.map_nil, Rows.uptoBulk, Rows.uptoBulkAll]
        omega
    obtain ⟨q, hq⟩ := Go.Deep.choose_lt each
    have hlen : ((List.range l).map fun i => (⟨(q i).1, (q i).2.1, (q i).2.2.1, (q i).2.2.2.data.toList⟩ : Rcd)).length = l := by simp
    refine ⟨some x, (List.range l).map fun i => ⟨(q i).1, (q i).2.1, (q i).2.2.1, (q i).2.2.2.data.toList⟩, _, by rw [hlen]; exact hcs, ?_, ?_⟩
    · intro h0
      rw [hlen] at h0
      obtain ⟨b, o, s⟩ := x
      have hs : s = none := by simpa [Addr.add] using World.cell?_spot (hq 0 (by omega)).1
      subst hs
      refine ⟨b, o, rfl, fun j v hj => ?_⟩
      obtain ⟨i, hi, h4⟩ := rc_at _ j v hj
      rw [hlen] at hi
      obtain ⟨c0, c1, c2, c3, _⟩ := hq i (by omega)
      rw [add_plain] at c0 c1 c2 c3
      simp only [List.getElem_map, List.getElem_range] at h4
      rcases h4 with ⟨rfl, rfl⟩ | ⟨rfl, rfl⟩ | ⟨rfl, rfl⟩ | ⟨rfl, rfl⟩
      · exact c0
      · exact c1
      · exact c2
      · exact c3
    · rw [hx.1, hlen]
      have := bulkAll_sum D (fun i => i) (fun _ => 1) l fun i hi => (hq i (by omega)).2.2.2.2
      simp only [Rows.uptoBulk]
      have e : ((List.range l).map fun i => i).map (fun _ => 1) = List.replicate l 1 := by
        rw [List.map_map]
        apply List.ext_getElem <;> simp
      rw [e] at this
      simp at this
      omega
set_option maxRecDepth 100000 in
theorem open_recs {r : Reach} {b0 : Nat} {v : Value} (hv : Value.okWide Tryz.prog W r b0 25 v) (h : DataW.Trod enc Tryz.prog W 0 (fun _ => true) true 25 v d ps) :
    ∃ p L c, v = .slice p (List.length L) c ∧ InRc W p L ∧ L.length ≤ Rows.uptoBulk d := by
  obtain ⟨a0, len, cap, rfl⟩ := okWide_slice Tryz.underlying25 hv
  obtain ⟨fuel, hf⟩ := h
  obtain ⟨p, L, c, e, h1, h2⟩ := open_recsC hf
  simp [Value.cells] at e
  obtain ⟨rfl, rfl, rfl⟩ := e
  exact ⟨_, L, _, rfl, h1, by omega⟩
end
end Go.Proofs.YtheoklhmlnfgjaaGreatDoor
/-
  Good of the document's disk leaves the world as it was.
-/
namespace Go.Proofs.YtheoklhmlnfgjaaGreatDoor
open Go.RowKit

set_option maxHeartbeats 4000000 in
theorem refGood_same (s : ByteArray) (w : World) (hs : s.size ≤ 140737488351232) :
    Calls Tryz.prog 39 #[.string s] w fun e w' => e = .returned (.bool (goodN s.data.toList)) ∧ w = w' := by
  have hz := size_list s
  have HZ := Lib.hid hz
  clear hz
  go_enter Tryz.func39, Tryz.ntmps39
  go_wp2
  go_loopw [2, 3] (fun v i wr => ∃ k : Nat, k ≤ s.size ∧ v = .bool false ∧ i = .int .i64 k ∧ (s.data.toList.take k).all nameB = true ∧ w = wr) (fun _ i _ => s.size - (intOf i).toNat)
  case atStart => exact ⟨0, Nat.zero_le _, rfl, rfl, by simp, rfl⟩
  case round =>
    obtain ⟨k, hk, rfl, rfl, hall, hb⟩ := hrel
    have HB := Lib.hid hb
    clear hb
    have HALL := Lib.hid hall
    clear hall
    by_cases hlt : k < s.size
    · have hkl : k < s.data.toList.length := by rw [HZ.out]; exact hlt
      have hx : s.data.toList[k] = s[k] := by
        have := bt_str s k hlt
        rw [bt_get _ k hkl] at this
        exact UInt8.toNat_inj.1 (by omega)
      have HT := Lib.hid (all_take hkl nameB)
      have hnb := nameB_int s[k]
      rw [← hx] at hnb
      have HNB := Lib.hid hnb
      have HX := Lib.hid hx
      obtain ⟨c, hc⟩ : ∃ c : Int, c = (s[k].toNat : Int) := ⟨_, rfl⟩
      have h0 : 0 ≤ c := by omega
      have HC := Lib.hid hc
      clear hx hnb
      have hrg : (c < 45) ∨ (c = 45) ∨ (c = 46) ∨ (c = 47) ∨ (48 ≤ c ∧ c ≤ 57) ∨ (58 ≤ c ∧ c ≤ 94) ∨ (c = 95) ∨ (c = 96) ∨ (97 ≤ c ∧ c ≤ 122) ∨ (122 < c) := by omega
      rcases hrg with h | h | h | h | h | h | h | h | h | h
      · have : ¬ 97 ≤ (s[k].toNat : Int) := by omega
        have : (s[k].toNat : Int) ≤ 122 := by omega
        have : ¬ 48 ≤ (s[k].toNat : Int) := by omega
        have : (s[k].toNat : Int) ≤ 57 := by omega
        have : ((s[k].toNat : Int) == 46) = false := beq_eq_false_iff_ne.2 (by omega)
        have : ((s[k].toNat : Int) == 45) = false := beq_eq_false_iff_ne.2 (by omega)
        have : ((s[k].toNat : Int) == 95) = false := beq_eq_false_iff_ne.2 (by omega)
        have : ((s[k].toNat : Int) == 47) = false := beq_eq_false_iff_ne.2 (by omega)
        have hg : nameB s.data.toList[k] = false := by rw [HNB.out, HX.out]; exact decide_eq_false (by omega)
        have hgn : goodN s.data.toList = false := by
          unfold goodN
          rw [show s.data.toList.all nameB = false from by
            rw [Bool.eq_false_iff]
            intro ha
            have := List.all_eq_true.1 ha _ (List.getElem_mem hkl)
            rw [hg] at this; cases this]
          exact Bool.and_false _
        have HG := Lib.hid hgn
        clear hg hgn h hc
        go_wp2
        go_ret
        exact ⟨by rw [HG.out]; rfl, HB.out⟩
      · have : ¬ 97 ≤ (s[k].toNat : Int) := by omega
        have : (s[k].toNat : Int) ≤ 122 := by omega
        have : ¬ 48 ≤ (s[k].toNat : Int) := by omega
        have : (s[k].toNat : Int) ≤ 57 := by omega
        have : ((s[k].toNat : Int) == 46) = false := beq_eq_false_iff_ne.2 (by omega)
        have : ((s[k].toNat : Int) == 45) = true := beq_iff_eq.2 (by omega)
        have : ((s[k].toNat : Int) == 95) = false := beq_eq_false_iff_ne.2 (by omega)
        have : ((s[k].toNat : Int) == 47) = false := beq_eq_false_iff_ne.2 (by omega)
        have hg : nameB s.data.toList[k] = true := by rw [HNB.out, HX.out]; exact decide_eq_true (by omega)
        have HG := Lib.hid hg
        clear hg h hc
        go_wp2
        go_roundw
        case rel => exact ⟨k + 1, by omega, by trivial, by go_num, by rw [HT.out, HALL.out, HG.out]; rfl, HB.out⟩
        case measure => simp [intOf]; omega
      · have : ¬ 97 ≤ (s[k].toNat : Int) := by omega
        have : (s[k].toNat : Int) ≤ 122 := by omega
        have : ¬ 48 ≤ (s[k].toNat : Int) := by omega
        have : (s[k].toNat : Int) ≤ 57 := by omega
        have : ((s[k].toNat : Int) == 46) = true := beq_iff_eq.2 (by omega)
        have : ((s[k].toNat : Int) == 45) = false := beq_eq_false_iff_ne.2 (by omega)
        have : ((s[k].toNat : Int) == 95) = false := beq_eq_false_iff_ne.2 (by omega)
        have : ((s[k].toNat : Int) == 47) = false := beq_eq_false_iff_ne.2 (by omega)
        have hg : nameB s.data.toList[k] = true := by rw [HNB.out, HX.out]; exact decide_eq_true (by omega)
        have HG := Lib.hid hg
        clear hg h hc
        go_wp2
        go_roundw
        case rel => exact ⟨k + 1, by omega, by trivial, by go_num, by rw [HT.out, HALL.out, HG.out]; rfl, HB.out⟩
        case measure => simp [intOf]; omega
      · have : ¬ 97 ≤ (s[k].toNat : Int) := by omega
        have : (s[k].toNat : Int) ≤ 122 := by omega
        have : ¬ 48 ≤ (s[k].toNat : Int) := by omega
        have : (s[k].toNat : Int) ≤ 57 := by omega
        have : ((s[k].toNat : Int) == 46) = false := beq_eq_false_iff_ne.2 (by omega)
        have : ((s[k].toNat : Int) == 45) = false := beq_eq_false_iff_ne.2 (by omega)
        have : ((s[k].toNat : Int) == 95) = false := beq_eq_false_iff_ne.2 (by omega)
        have : ((s[k].toNat : Int) == 47) = true := beq_iff_eq.2 (by omega)
        have hg : nameB s.data.toList[k] = true := by rw [HNB.out, HX.out]; exact decide_eq_true (by omega)
        have HG := Lib.hid hg
        clear hg h hc
        go_wp2
        go_roundw
        case rel => exact ⟨k + 1, by omega, by trivial, by go_num, by rw [HT.out, HALL.out, HG.out]; rfl, HB.out⟩
        case measure => simp [intOf]; omega
      · have : ¬ 97 ≤ (s[k].toNat : Int) := by omega
        have : (s[k].toNat : Int) ≤ 122 := by omega
        have : 48 ≤ (s[k].toNat : Int) := by omega
        have : (s[k].toNat : Int) ≤ 57 := by omega
        have : ((s[k].toNat : Int) == 46) = false := beq_eq_false_iff_ne.2 (by omega)
        have : ((s[k].toNat : Int) == 45) = false := beq_eq_false_iff_ne.2 (by omega)
        have : ((s[k].toNat : Int) == 95) = false := beq_eq_false_iff_ne.2 (by omega)
        have : ((s[k].toNat : Int) == 47) = false := beq_eq_false_iff_ne.2 (by omega)
        have hg : nameB s.data.toList[k] = true := by rw [HNB.out, HX.out]; exact decide_eq_true (by omega)
        have HG := Lib.hid hg
        clear hg h hc
        go_wp2
        go_roundw
        case rel => exact ⟨k + 1, by omega, by trivial, by go_num, by rw [HT.out, HALL.out, HG.out]; rfl, HB.out⟩
        case measure => simp [intOf]; omega
      · have : ¬ 97 ≤ (s[k].toNat : Int) := by omega
        have : (s[k].toNat : Int) ≤ 122 := by omega
        have : 48 ≤ (s[k].toNat : Int) := by omega
        have : ¬ (s[k].toNat : Int) ≤ 57 := by omega
        have : ((s[k].toNat : Int) == 46) = false := beq_eq_false_iff_ne.2 (by omega)
        have : ((s[k].toNat : Int) == 45) = false := beq_eq_false_iff_ne.2 (by omega)
        have : ((s[k].toNat : Int) == 95) = false := beq_eq_false_iff_ne.2 (by omega)
        have : ((s[k].toNat : Int) == 47) = false := beq_eq_false_iff_ne.2 (by omega)
        have hg : nameB s.data.toList[k] = false := by rw [HNB.out, HX.out]; exact decide_eq_false (by omega)
        have hgn : goodN s.data.toList = false := by
          unfold goodN
          rw [show s.data.toList.all nameB = false from by
            rw [Bool.eq_false_iff]
            intro ha
            have := List.all_eq_true.1 ha _ (List.getElem_mem hkl)
            rw [hg] at this; cases this]
          exact Bool.and_false _
        have HG := Lib.hid hgn
        clear hg hgn h hc
        go_wp2
        go_ret
        exact ⟨by rw [HG.out]; rfl, HB.out⟩
      · have : ¬ 97 ≤ (s[k].toNat : Int) := by omega
        have : (s[k].toNat : Int) ≤ 122 := by omega
        have : 48 ≤ (s[k].toNat : Int) := by omega
        have : ¬ (s[k].toNat : Int) ≤ 57 := by omega
        have : ((s[k].toNat : Int) == 46) = false := beq_eq_false_iff_ne.2 (by omega)
        have : ((s[k].toNat : Int) == 45) = false := beq_eq_false_iff_ne.2 (by omega)
        have : ((s[k].toNat : Int) == 95) = true := beq_iff_eq.2 (by omega)
        have : ((s[k].toNat : Int) == 47) = false := beq_eq_false_iff_ne.2 (by omega)
        have hg : nameB s.data.toList[k] = true := by rw [HNB.out, HX.out]; exact decide_eq_true (by omega)
        have HG := Lib.hid hg
        clear hg h hc
        go_wp2
        go_roundw
        case rel => exact ⟨k + 1, by omega, by trivial, by go_num, by rw [HT.out, HALL.out, HG.out]; rfl, HB.out⟩
        case measure => simp [intOf]; omega
      · have : ¬ 97 ≤ (s[k].toNat : Int) := by omega
        have : (s[k].toNat : Int) ≤ 122 := by omega
        have : 48 ≤ (s[k].toNat : Int) := by omega
        have : ¬ (s[k].toNat : Int) ≤ 57 := by omega
        have : ((s[k].toNat : Int) == 46) = false := beq_eq_false_iff_ne.2 (by omega)
        have : ((s[k].toNat : Int) == 45) = false := beq_eq_false_iff_ne.2 (by omega)
        have : ((s[k].toNat : Int) == 95) = false := beq_eq_false_iff_ne.2 (by omega)
        have : ((s[k].toNat : Int) == 47) = false := beq_eq_false_iff_ne.2 (by omega)
        have hg : nameB s.data.toList[k] = false := by rw [HNB.out, HX.out]; exact decide_eq_false (by omega)
        have hgn : goodN s.data.toList = false := by
          unfold goodN
          rw [show s.data.toList.all nameB = false from by
            rw [Bool.eq_false_iff]
            intro ha
            have := List.all_eq_true.1 ha _ (List.getElem_mem hkl)
            rw [hg] at this; cases this]
          exact Bool.and_false _
        have HG := Lib.hid hgn
        clear hg hgn h hc
        go_wp2
        go_ret
        exact ⟨by rw [HG.out]; rfl, HB.out⟩
      · have : 97 ≤ (s[k].toNat : Int) := by omega
        have : (s[k].toNat : Int) ≤ 122 := by omega
        have : 48 ≤ (s[k].toNat : Int) := by omega
        have : ¬ (s[k].toNat : Int) ≤ 57 := by omega
        have : ((s[k].toNat : Int) == 46) = false := beq_eq_false_iff_ne.2 (by omega)
        have : ((s[k].toNat : Int) == 45) = false := beq_eq_false_iff_ne.2 (by omega)
        have : ((s[k].toNat : Int) == 95) = false := beq_eq_false_iff_ne.2 (by omega)
        have : ((s[k].toNat : Int) == 47) = false := beq_eq_false_iff_ne.2 (by omega)
        have hg : nameB s.data.toList[k] = true := by rw [HNB.out, HX.out]; exact decide_eq_true (by omega)
        have HG := Lib.hid hg
        clear hg h hc
        go_wp2
        go_roundw
        case rel => exact ⟨k + 1, by omega, by trivial, by go_num, by rw [HT.out, HALL.out, HG.out]; rfl, HB.out⟩
        case measure => simp [intOf]; omega
      · have : 97 ≤ (s[k].toNat : Int) := by omega
        have : ¬ (s[k].toNat : Int) ≤ 122 := by omega
        have : 48 ≤ (s[k].toNat : Int) := by omega
        have : ¬ (s[k].toNat : Int) ≤ 57 := by omega
        have : ((s[k].toNat : Int) == 46) = false := beq_eq_false_iff_ne.2 (by omega)
        have : ((s[k].toNat : Int) == 45) = false := beq_eq_false_iff_ne.2 (by omega)
        have : ((s[k].toNat : Int) == 95) = false := beq_eq_false_iff_ne.2 (by omega)
        have : ((s[k].toNat : Int) == 47) = false := beq_eq_false_iff_ne.2 (by omega)
        have hg : nameB s.data.toList[k] = false := by rw [HNB.out, HX.out]; exact decide_eq_false (by omega)
        have hgn : goodN s.data.toList = false := by
          unfold goodN
          rw [show s.data.toList.all nameB = false from by
            rw [Bool.eq_false_iff]
            intro ha
            have := List.all_eq_true.1 ha _ (List.getElem_mem hkl)
            rw [hg] at this; cases this]
          exact Bool.and_false _
        have HG := Lib.hid hgn
        clear hg hgn h hc
        go_wp2
        go_ret
        exact ⟨by rw [HG.out]; rfl, HB.out⟩
    · obtain rfl : k = s.size := by omega
      have hgn : goodN s.data.toList = decide (1 ≤ s.size ∧ s.size ≤ 64) := by
        have ha := HALL.out
        rw [← HZ.out, List.take_length] at ha
        unfold goodN
        rw [ha, HZ.out, Bool.and_true]
      have HGN := Lib.hid hgn
      clear hgn
      by_cases c1 : 1 ≤ s.size
      · by_cases c2 : s.size ≤ 64
        · have HG := Lib.hid (show goodN s.data.toList = true from HGN.out.trans (decide_eq_true ⟨c1, c2⟩))
          go_wp2
          go_ret
          exact ⟨ret_bool (by rw [HG.out]; exact decide_eq_true (by omega)), HB.out⟩
        · have HG := Lib.hid (show goodN s.data.toList = false from HGN.out.trans (decide_eq_false (fun e => c2 e.2)))
          go_wp2
          go_ret
          exact ⟨ret_bool (by rw [HG.out]; exact decide_eq_false (by omega)), HB.out⟩
      · have HG := Lib.hid (show goodN s.data.toList = false from HGN.out.trans (decide_eq_false (fun e => c1 e.1)))
        go_wp2
        go_ret
        exact ⟨by rw [HG.out]; rfl, HB.out⟩
end Go.Proofs.YtheoklhmlnfgjaaGreatDoor
/-
  A world in which the library's two tables hold what its text lays: for the witness of a row that lists them.
-/
namespace Go.Proofs.YtheoklhmlnfgjaaGreatDoor
open Go.RowKit

noncomputable def laidWorld (os : Os) : World :=
  let w0 := World.holding Tryz.prog os ⟨#[], #[], []⟩
  let put (h : Array Obj) (g : Nat) (cs : Array Value) : Array Obj := h.modify g fun
    | .cells _ t frozen => .cells cs t frozen
    | o => o
  let h1 := put w0.heap 0 (Lib.firstTab.map fun z => Value.int .u8 z).toArray
  let h2 := put h1 1 ((List.range 16).flatMap fun i => [Value.int .u8 (Lib.accLo i), Value.int .u8 (Lib.accHi i)]).toArray
  { w0 with heap := h2 }
end Go.Proofs.YtheoklhmlnfgjaaGreatDoor
