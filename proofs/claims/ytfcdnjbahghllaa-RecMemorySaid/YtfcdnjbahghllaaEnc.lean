/-
  The program's Encode and the document's: the same bytes and the same error.
-/
import Derived.Test.YtfcdnjbahghllaaBe
import Derived.Test.YtfcdnjbahghllaaSum
namespace Go.Proofs.Ytfcdnjbahghllaa
open Go.RowKit

/-- a record's bytes ahead of its check sum -/
def encBody (seq op no : Nat) (id : List UInt8) : List UInt8 := [UInt8.ofNat (192 + op)] ++ beB id.length 2 ++ beB seq 4 ++ beB no 4 ++ id
/-- a record's bytes -/
def encAll (seq op no : Nat) (id : List UInt8) : List UInt8 := encBody seq op no id ++ beB (crc (encBody seq op no id)) 4

/-- can the record be written? 0: yes -/
def encErr (seq op no : Int) (n : Nat) : Int :=
  if ¬ (op = 1 ∨ op = 2) ∨ ¬ (0 ≤ seq ∧ seq ≤ 4294967295) ∨ ¬ (0 ≤ no ∧ no ≤ 4294967295) then 100 else if 4096 < n then 101 else 0
/-- what is written -/
def encOf (seq op no : Int) (id : List UInt8) : List UInt8 := if encErr seq op no id.length = 0 then encAll seq.toNat op.toNat no.toNat id else []

theorem word_yes (v : Int) (h0 : 0 ≤ v) (h1 : v ≤ 4294967295) (w : World) : Calls Try.prog 21 #[.int .i64 v] w fun e w' => e = .returned (.bool true) ∧ w = w' := by
  go_enter Try.func21, Try.ntmps21
  go_wp2
  go_ret
  exact ⟨rfl, rfl⟩
theorem word_no (v : Int) (h : ¬ (0 ≤ v ∧ v ≤ 4294967295)) (w : World) : Calls Try.prog 21 #[.int .i64 v] w fun e w' => e = .returned (.bool false) ∧ w = w' := by
  by_cases h0 : 0 ≤ v
  · have h1 : ¬ v ≤ 4294967295 := by omega
    go_enter Try.func21, Try.ntmps21
    go_wp2
    go_ret
    exact ⟨rfl, rfl⟩
  · go_enter Try.func21, Try.ntmps21
    go_wp2
    go_ret
    exact ⟨rfl, rfl⟩

theorem cells4_at (w : World) (a b c d : Value) (t : Nat) : (w.alloc (.cells #[a, b, c, d] t)).cell? ⟨w.heap.size, 0, none⟩ = some a ∧ (w.alloc (.cells #[a, b, c, d] t)).cell? ⟨w.heap.size, 1, none⟩ = some b ∧ (w.alloc (.cells #[a, b, c, d] t)).cell? ⟨w.heap.size, 2, none⟩ = some c ∧ (w.alloc (.cells #[a, b, c, d] t)).cell? ⟨w.heap.size, 3, none⟩ = some d := by
  refine ⟨?_, ?_, ?_, ?_⟩ <;> (simp only [World.cell?, heap_alloc_new w (.cells #[a, b, c, d] t)]; rfl)

set_option maxHeartbeats 2000000 in
theorem recEnc_ok (seq op no : Int) (id : ByteArray) (hop : op = 1 ∨ op = 2) (hs0 : 0 ≤ seq) (hs1 : seq ≤ 4294967295) (hn0 : 0 ≤ no) (hn1 : no ≤ 4294967295) (hid : id.size ≤ 4096) (w : World) :
    Calls Try.prog 15 #[.agg #[.int .i64 seq, .int .i64 op, .int .i64 no, .string id]] w fun e w' => ∃ v, e = .returned (.tuple #[v, .int .i64 0]) ∧ Own8 w' w.heap.size v (encAll seq.toNat op.toNat no.toNat id.data.toList) ∧ Below w.heap.size w w' := by
  have hz : id.data.toList.length = id.size := by rw [Array.length_toList]; rfl
  have HZ := Lib.hid hz
  have hc := cells4_at w (.int .i64 seq) (.int .i64 op) (.int .i64 no) (.string id) 29
  have HC := Lib.hid hc
  have hol := Own8.lit (w.alloc (.cells #[.int .i64 seq, .int .i64 op, .int .i64 no, .string id] 29)) (192 + op) (by omega) (by omega)
  have HO := Lib.hid hol
  have hb0 : Below (w.heap.size + 1) (w.alloc (.cells #[.int .i64 seq, .int .i64 op, .int .i64 no, .string id] 29)) ((w.alloc (.cells #[.int .i64 seq, .int .i64 op, .int .i64 no, .string id] 29)).alloc (.cells #[.int .u8 (192 + op)] 5)) := (Below.refl _ _).alloc (by simp) _
  have hbw : Below w.heap.size w (w.alloc (.cells #[.int .i64 seq, .int .i64 op, .int .i64 no, .string id] 29)) := (Below.refl _ _).alloc (Nat.le_refl _) _
  clear hz hc hol
  have h192 : ubyte (192 + op) = UInt8.ofNat (192 + op.toNat) := by unfold ubyte; congr 1; omega
  have H192 := Lib.hid h192
  clear h192
  rcases hop with rfl | rfl
  · go_enter Try.func15, Try.ntmps15
    go_wp2_with (go_at_call 21; refine (word_yes _ (by omega) (by omega) _).mono ?_; rintro e w1 ⟨rfl, rfl⟩)
    refine (put_any _ _ 2 rfl (by omega) (by omega) (by omega) [_] _ (w.heap.size + 1) _ (by simp) (by have := HO.out; simpa using this) (by simp)).mono ?_
    rintro e w1 ⟨v1, rfl, hown1, hb1⟩
    have hb1' := hb0.trans hb1
    have hz1 : w.heap.size + 1 ≤ w1.heap.size := by have := hb1'.size; simpa using this
    have c10 := (hb1'.cell (p := ⟨w.heap.size, 0, none⟩) (by simp)).trans HC.out.1
    have c12 := (hb1'.cell (p := ⟨w.heap.size, 2, none⟩) (by simp)).trans HC.out.2.2.1
    have c13 := (hb1'.cell (p := ⟨w.heap.size, 3, none⟩) (by simp)).trans HC.out.2.2.2
    go_wp2_with fail
    refine (put_any _ _ 4 rfl (by omega) (by omega) (by omega) _ _ (w.heap.size + 1) w1 (by simp [beB_length]) hown1 hz1).mono ?_
    rintro e w2 ⟨v2, rfl, hown2, hb2⟩
    clear c10 hown1 hb1
    have hz2 : w.heap.size + 1 ≤ w2.heap.size := by have := hb2.size; omega
    replace c12 := (hb2.cell (p := ⟨w.heap.size, 2, none⟩) (by simp)).trans c12
    replace c13 := (hb2.cell (p := ⟨w.heap.size, 3, none⟩) (by simp)).trans c13
    go_wp2_with fail
    refine (put_any _ _ 4 rfl (by omega) (by omega) (by omega) _ _ (w.heap.size + 1) w2 (by simp [beB_length]) hown2 hz2).mono ?_
    rintro e w3 ⟨v3, rfl, hown3, hb3⟩
    clear c12 hown2
    have hz3 : w.heap.size + 1 ≤ w3.heap.size := by have := hb3.size; omega
    replace c13 := (hb3.cell (p := ⟨w.heap.size, 3, none⟩) (by simp)).trans c13
    go_wp2_with (at_builtin; refine wpList_append8s rfl _ _ rfl (w.heap.size + 1) v3 _ rfl hown3 id rfl (by simp [beB_length]; omega) hz3 ?_; intro v4 w4 hown4 hg4)
    obtain ⟨L, hL⟩ : ∃ L, L = [ubyte 193] ++ beB (id.size : Int).toNat 2 ++ beB seq.toNat 4 ++ beB no.toNat 4 ++ id.data.toList := ⟨_, rfl⟩
    rw [← hL] at hown4
    have hlen : L.length ≤ 100000 := by rw [hL]; simp [beB_length]; omega
    have HL := Lib.hid hL
    clear hL
    refine (recSum_own hown4).mono ?_
    rintro e w5 ⟨rfl, rfl⟩
    have hz4 : w.heap.size + 1 ≤ w4.heap.size := by have := hg4.size; omega
    have hcl := crc_lt L
    go_wp2_with fail
    refine (put_any _ _ 4 rfl (by omega) (by omega) (by omega) _ _ (w.heap.size + 1) w4 hlen hown4 hz4).mono ?_
    rintro e w5 ⟨v5, rfl, hown5, hb5⟩
    go_wp2_with fail
    go_ret2
    refine ⟨v5, rfl, ?_, ?_⟩
    · refine Own8.mono ?_ (Nat.le_succ _)
      have e : encAll seq.toNat (Int.toNat 1) no.toNat id.data.toList = L ++ beB ((crc L : Nat) : Int).toNat 4 := by
        unfold encAll encBody; rw [← H192.out, HZ.out, HL.out]; rfl
      rw [e]; exact hown5
    · have h1 : Below (w.heap.size + 1) (w.alloc (.cells #[.int .i64 seq, .int .i64 1, .int .i64 no, .string id] 29)) w5 := (((hb1'.trans hb2).trans hb3).grown hg4 hz3 (fun k e => (hown3.lt k e).1)).trans hb5
      exact hbw.trans (h1.mono (Nat.le_succ _))
  · go_enter Try.func15, Try.ntmps15
    go_wp2_with (go_at_call 21; refine (word_yes _ (by omega) (by omega) _).mono ?_; rintro e w1 ⟨rfl, rfl⟩)
    refine (put_any _ _ 2 rfl (by omega) (by omega) (by omega) [_] _ (w.heap.size + 1) _ (by simp) (by have := HO.out; simpa using this) (by simp)).mono ?_
    rintro e w1 ⟨v1, rfl, hown1, hb1⟩
    have hb1' := hb0.trans hb1
    have hz1 : w.heap.size + 1 ≤ w1.heap.size := by have := hb1'.size; simpa using this
    have c10 := (hb1'.cell (p := ⟨w.heap.size, 0, none⟩) (by simp)).trans HC.out.1
    have c12 := (hb1'.cell (p := ⟨w.heap.size, 2, none⟩) (by simp)).trans HC.out.2.2.1
    have c13 := (hb1'.cell (p := ⟨w.heap.size, 3, none⟩) (by simp)).trans HC.out.2.2.2
    go_wp2_with fail
    refine (put_any _ _ 4 rfl (by omega) (by omega) (by omega) _ _ (w.heap.size + 1) w1 (by simp [beB_length]) hown1 hz1).mono ?_
    rintro e w2 ⟨v2, rfl, hown2, hb2⟩
    clear c10 hown1 hb1
    have hz2 : w.heap.size + 1 ≤ w2.heap.size := by have := hb2.size; omega
    replace c12 := (hb2.cell (p := ⟨w.heap.size, 2, none⟩) (by simp)).trans c12
    replace c13 := (hb2.cell (p := ⟨w.heap.size, 3, none⟩) (by simp)).trans c13
    go_wp2_with fail
    refine (put_any _ _ 4 rfl (by omega) (by omega) (by omega) _ _ (w.heap.size + 1) w2 (by simp [beB_length]) hown2 hz2).mono ?_
    rintro e w3 ⟨v3, rfl, hown3, hb3⟩
    clear c12 hown2
    have hz3 : w.heap.size + 1 ≤ w3.heap.size := by have := hb3.size; omega
    replace c13 := (hb3.cell (p := ⟨w.heap.size, 3, none⟩) (by simp)).trans c13
    go_wp2_with (at_builtin; refine wpList_append8s rfl _ _ rfl (w.heap.size + 1) v3 _ rfl hown3 id rfl (by simp [beB_length]; omega) hz3 ?_; intro v4 w4 hown4 hg4)
    obtain ⟨L, hL⟩ : ∃ L, L = [ubyte 194] ++ beB (id.size : Int).toNat 2 ++ beB seq.toNat 4 ++ beB no.toNat 4 ++ id.data.toList := ⟨_, rfl⟩
    rw [← hL] at hown4
    have hlen : L.length ≤ 100000 := by rw [hL]; simp [beB_length]; omega
    have HL := Lib.hid hL
    clear hL
    refine (recSum_own hown4).mono ?_
    rintro e w5 ⟨rfl, rfl⟩
    have hz4 : w.heap.size + 1 ≤ w4.heap.size := by have := hg4.size; omega
    have hcl := crc_lt L
    go_wp2_with fail
    refine (put_any _ _ 4 rfl (by omega) (by omega) (by omega) _ _ (w.heap.size + 1) w4 hlen hown4 hz4).mono ?_
    rintro e w5 ⟨v5, rfl, hown5, hb5⟩
    go_wp2_with fail
    go_ret2
    refine ⟨v5, rfl, ?_, ?_⟩
    · refine Own8.mono ?_ (Nat.le_succ _)
      have e : encAll seq.toNat (Int.toNat 2) no.toNat id.data.toList = L ++ beB ((crc L : Nat) : Int).toNat 4 := by
        unfold encAll encBody; rw [← H192.out, HZ.out, HL.out]; rfl
      rw [e]; exact hown5
    · have h1 : Below (w.heap.size + 1) (w.alloc (.cells #[.int .i64 seq, .int .i64 2, .int .i64 no, .string id] 29)) w5 := (((hb1'.trans hb2).trans hb3).grown hg4 hz3 (fun k e => (hown3.lt k e).1)).trans hb5
      exact hbw.trans (h1.mono (Nat.le_succ _))

theorem recEnc_bad1 (seq op no : Int) (id : ByteArray) (h1 : ¬ op = 1) (h2 : ¬ op = 2) (w : World) :
    Calls Try.prog 15 #[.agg #[.int .i64 seq, .int .i64 op, .int .i64 no, .string id]] w fun e w' => e = .returned (.tuple #[.slice none 0 0, .int .i64 100]) ∧ Below w.heap.size w w' := by
  have b1 : (op != 1) = true := by simp [h1]
  have b2 : (op != 2) = true := by simp [h2]
  clear h1 h2
  go_enter Try.func15, Try.ntmps15
  go_wp2_with fail
  go_ret2
  exact ⟨rfl, (Below.refl _ _).alloc (Nat.le_refl _) _⟩
theorem recEnc_bad2 (seq op no : Int) (id : ByteArray) (hop : op = 1 ∨ op = 2) (h : ¬ (0 ≤ seq ∧ seq ≤ 4294967295)) (w : World) :
    Calls Try.prog 15 #[.agg #[.int .i64 seq, .int .i64 op, .int .i64 no, .string id]] w fun e w' => e = .returned (.tuple #[.slice none 0 0, .int .i64 100]) ∧ Below w.heap.size w w' := by
  have HH := Lib.hid h
  clear h
  rcases hop with rfl | rfl
  all_goals
    go_enter Try.func15, Try.ntmps15
    go_wp2_with (go_at_call 21; refine (word_no _ HH.out _).mono ?_; rintro e w1 ⟨rfl, rfl⟩)
    go_ret2
    exact ⟨rfl, (Below.refl _ _).alloc (Nat.le_refl _) _⟩
theorem recEnc_bad3 (seq op no : Int) (id : ByteArray) (hop : op = 1 ∨ op = 2) (hs0 : 0 ≤ seq) (hs1 : seq ≤ 4294967295) (h : ¬ (0 ≤ no ∧ no ≤ 4294967295)) (w : World) :
    Calls Try.prog 15 #[.agg #[.int .i64 seq, .int .i64 op, .int .i64 no, .string id]] w fun e w' => e = .returned (.tuple #[.slice none 0 0, .int .i64 100]) ∧ Below w.heap.size w w' := by
  have HH := Lib.hid h
  clear h
  rcases hop with rfl | rfl
  all_goals
    go_enter Try.func15, Try.ntmps15
    go_wp2_with fail
    refine (word_yes _ hs0 hs1 _).mono ?_
    rintro e w1 ⟨rfl, rfl⟩
    go_wp2_with fail
    refine (word_no _ HH.out _).mono ?_
    rintro e w1 ⟨rfl, rfl⟩
    go_wp2_with fail
    go_ret2
    exact ⟨rfl, (Below.refl _ _).alloc (Nat.le_refl _) _⟩
theorem recEnc_bad4 (seq op no : Int) (id : ByteArray) (hop : op = 1 ∨ op = 2) (hs0 : 0 ≤ seq) (hs1 : seq ≤ 4294967295) (hn0 : 0 ≤ no) (hn1 : no ≤ 4294967295) (hid : 4096 < id.size) (w : World) :
    Calls Try.prog 15 #[.agg #[.int .i64 seq, .int .i64 op, .int .i64 no, .string id]] w fun e w' => e = .returned (.tuple #[.slice none 0 0, .int .i64 101]) ∧ Below w.heap.size w w' := by
  rcases hop with rfl | rfl
  all_goals
    go_enter Try.func15, Try.ntmps15
    go_wp2_with (go_at_call 21; refine (word_yes _ (by omega) (by omega) _).mono ?_; rintro e w1 ⟨rfl, rfl⟩)
    go_ret2
    exact ⟨rfl, (Below.refl _ _).alloc (Nat.le_refl _) _⟩

theorem recEnc_any (seq op no : Int) (id : ByteArray) (w : World) :
    Calls Try.prog 15 #[.agg #[.int .i64 seq, .int .i64 op, .int .i64 no, .string id]] w fun e w' => ∃ v, e = .returned (.tuple #[v, .int .i64 (encErr seq op no id.size)]) ∧ Own8 w' w.heap.size v (encOf seq op no id.data.toList) ∧ Below w.heap.size w w' := by
  have hz : id.data.toList.length = id.size := by rw [Array.length_toList]; rfl
  have bad : ∀ c : Int, c ≠ 0 → encErr seq op no id.size = c → ∀ (e : Ending) (w' : World), (e = .returned (.tuple #[.slice none 0 0, .int .i64 c]) ∧ Below w.heap.size w w') → ∃ v, e = .returned (.tuple #[v, .int .i64 (encErr seq op no id.size)]) ∧ Own8 w' w.heap.size v (encOf seq op no id.data.toList) ∧ Below w.heap.size w w' := by
    rintro c hc he e w' ⟨rfl, hb⟩
    refine ⟨_, by rw [he], ?_, hb⟩
    have : encOf seq op no id.data.toList = [] := by unfold encOf; rw [hz, he, if_neg hc]
    rw [this]; exact Own8.nil _ _
  by_cases hop : op = 1 ∨ op = 2
  · by_cases hs : 0 ≤ seq ∧ seq ≤ 4294967295
    · by_cases hn : 0 ≤ no ∧ no ≤ 4294967295
      · by_cases hid : 4096 < id.size
        · exact (recEnc_bad4 seq op no id hop hs.1 hs.2 hn.1 hn.2 hid w).mono (bad 101 (by decide) (by unfold encErr; rw [if_neg (by simp [hop, hs, hn]), if_pos hid]))
        · have he : encErr seq op no id.size = 0 := by unfold encErr; rw [if_neg (by simp [hop, hs, hn]), if_neg hid]
          have hf : encOf seq op no id.data.toList = encAll seq.toNat op.toNat no.toNat id.data.toList := by unfold encOf; rw [hz, he, if_pos rfl]
          rw [he, hf]
          exact recEnc_ok seq op no id hop hs.1 hs.2 hn.1 hn.2 (by omega) w
      · exact (recEnc_bad3 seq op no id hop hs.1 hs.2 hn w).mono (bad 100 (by decide) (by unfold encErr; rw [if_pos (Or.inr (Or.inr hn))]))
    · exact (recEnc_bad2 seq op no id hop hs w).mono (bad 100 (by decide) (by unfold encErr; rw [if_pos (Or.inr (Or.inl hs))]))
  · exact (recEnc_bad1 seq op no id (fun h => hop (.inl h)) (fun h => hop (.inr h)) w).mono (bad 100 (by decide) (by unfold encErr; rw [if_pos (Or.inl hop)]))
end Go.Proofs.Ytfcdnjbahghllaa
