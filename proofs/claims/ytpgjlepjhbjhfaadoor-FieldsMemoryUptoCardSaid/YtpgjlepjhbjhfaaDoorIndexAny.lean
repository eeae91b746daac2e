/-
  bytes.IndexAny at the two bytes of a line's end.
-/
import Derived.Test.YtpgjlepjhbjhfaaDoorAscii
import Derived.Test.YtpgjlepjhbjhfaaDoorUse
import Derived.Test.YtpgjlepjhbjhfaaDoorLayDec
import Derived.Shelf.Spec.DecodeRune
import Derived.Lib.Bytealg
import Derived.Lib.IndexEntry
import Derived.Laws.RangeAny
import Derived.Lib.MapLaws
import Derived.Lib.IndexLaws
namespace Go.Proofs.YtpgjlepjhbjhfaaDoor
open Go.RowKit

def endB (b : UInt8) : Bool := b == 13 || b == 10
def endI (l : List UInt8) : Int := if l.findIdx endB < l.length then (l.findIdx endB : Int) else -1
theorem endI_at (l : List UInt8) (k : Nat) (h : k < l.length) (h1 : endB l[k] = true) (h0 : ∀ j, (hj : j < l.length) → j < k → endB l[j] = false) : endI l = k := by
  have e : l.findIdx endB = k := by
    rw [List.findIdx_eq h]
    exact ⟨h1, fun j hj => h0 j (by omega) hj⟩
  unfold endI
  rw [e, if_pos h]
theorem endI_none (l : List UInt8) (h0 : ∀ j, (hj : j < l.length) → endB l[j] = false) : endI l = -1 := by
  unfold endI
  rw [if_neg]
  intro h
  have := List.findIdx_getElem (p := endB) (xs := l) (w := h)
  rw [h0 _ h] at this
  cases this

theorem contains_any (b : Nat) (x : UInt8) (w : World) (hc : w.cell? ⟨b, x.toNat, none⟩ = some (.bool (endB x))) :
    Calls Tryd.prog 64 #[.pointer (some ⟨b, 0, none⟩), .int .u8 x.toNat] w fun e w' => e = .returned (.bool (endB x)) ∧ w = w' := by
  have hx256 : (x.toNat : Int) < 256 := by have := UInt8.toNat_lt x; omega
  go_enter Tryd.func64, Tryd.ntmps64
  go_wp2
  go_ret
  exact ⟨rfl, rfl⟩

set_option maxHeartbeats 4000000 in
set_option maxRecDepth 100000 in
/-- the long road: more than eight bytes -/
theorem indexAny_long (l : List UInt8) (p : Option Addr) (n c : Nat) (hn : l.length = n) (h8 : 8 < n) (hm : n ≤ 140737488351232) (w : World) (h : In8 w p l) :
    Calls Tryd.prog 39 #[.slice p n c, .string crlf] w fun e w' => e = .returned (.int .i64 (endI l)) ∧ Below w.heap.size w w' := by
  subst hn
  have n1 : ((l.length : Int) == 1) = false := beq_eq_false_iff_ne.2 (by omega)
  have n8 : (8 : Int) < (l.length : Int) := by omega
  go_enter Tryd.func39, Tryd.ntmps39
  go_wp2_with (go_at_call 62; go_in)
  refine (asciiSet_any w).mono ?_
  rintro e w1 ⟨rfl, rfl⟩
  obtain ⟨sc, hsc⟩ : ∃ sc, sc = Lib.setCells [13, 10] := ⟨_, rfl⟩
  rw [← hsc]
  have hs256 : sc.size = 256 := by rw [hsc]; exact Lib.setCells_size _
  have hst := run_storeCells_new (P := Tryd.prog) (w.alloc (.cells sc 82)) 82 Tryd.zeroCells82 sc (by rw [hs256]; exact size82) (by rw [hs256, zero82, Lib.setCells_size]) (by rw [hsc]; exact Lib.setCells_one _)
  have hat : ∀ x : UInt8, ((w.alloc (.cells sc 82)).alloc (.cells sc 82)).cell? ⟨(w.alloc (.cells sc 82)).heap.size, x.toNat, none⟩ = some (.bool (endB x)) := fun x => by
    rw [cell_of_row _ _ _ _ _ _ (heap_alloc_new (w.alloc (.cells sc 82)) (.cells sc 82)), hsc]
    rw [Lib.setCells_at]
    simp [endB]
    rfl
  have hb2 := ((Below.refl w.heap.size w).alloc (Nat.le_refl _) (.cells sc 82)).alloc (by simp) (.cells sc 82)
  have hin := (h.alloc (.cells sc 82)).alloc (.cells sc 82)
  have hz2 : ((w.alloc (.cells sc 82)).alloc (.cells sc 82)).heap.size = w.heap.size + 2 := by simp
  simp only [World.size_alloc] at hst hat
  obtain ⟨W2, hW2⟩ : ∃ W2, W2 = (w.alloc (.cells sc 82)).alloc (.cells sc 82) := ⟨_, rfl⟩
  rw [← hW2] at hst hat hb2 hin hz2
  have HAT := Lib.hid hat
  clear hat hsc hW2 h
  go_wp2_with fail
  go_loopw [62] (fun i wr => ∃ k : Nat, k ≤ l.length ∧ i = .int .i64 k ∧ wr = W2 ∧ ∀ j, (hj : j < l.length) → j < k → endB l[j] = false) (fun i _ => l.length - (intOf i).toNat)
  case atStart => exact ⟨0, by omega, rfl, rfl, fun j _ h => absurd h (Nat.not_lt_zero j)⟩
  case round =>
    obtain ⟨k, hk, rfl, rfl, h0⟩ := hrel
    have H0 := Lib.hid h0
    clear h0
    by_cases hlt : k < l.length
    · obtain ⟨b, o, rfl, hc⟩ := hin.at hlt
      have hbt := bt_get l k hlt
      have hck := hc k hlt
      rw [hbt] at hck
      clear hc hbt
      go_wp2_with fail
      refine (contains_any _ l[k] _ (HAT.out _)).mono ?_
      rintro e w' ⟨rfl, rfl⟩
      cases he : endB l[k]
      · have HE := Lib.hid he
        clear he
        go_wp2_with fail
        go_roundw
        case rel => 
          refine ⟨k + 1, by omega, by go_num, by trivial, fun j hj hjk => ?_⟩
          by_cases h : j < k
          · exact H0.out j hj h
          · obtain rfl : j = k := by omega
            exact HE.out
        case measure => simp [intOf]; omega
      · have HE := Lib.hid (endI_at l k hlt he H0.out)
        clear he
        go_wp2_with fail
        go_ret
        exact ⟨by rw [HE.out]; rfl, hb2⟩
    · obtain rfl : k = l.length := by omega
      have HE := Lib.hid (endI_none l (fun j hj => H0.out j hj hj))
      go_wp2_with fail
      go_ret
      exact ⟨by rw [HE.out]; rfl, hb2⟩

def ixI (x : UInt8) : Int := Lib.indexByte [13, 10] x
theorem ixI_end : ∀ x : UInt8, (0 ≤ ixI x ↔ endB x = true) := by
  have h : ∀ n : Fin 256, (0 ≤ ixI (UInt8.ofNat n.val) ↔ endB (UInt8.ofNat n.val) = true) := by decide +kernel
  intro x
  have := h ⟨x.toNat, x.toNat_lt⟩
  simpa using this
theorem end_small : ∀ x : UInt8, 128 ≤ x.toNat → endB x = false := by
  have h : ∀ n : Fin 256, 128 ≤ n.val → endB (UInt8.ofNat n.val) = false := by decide +kernel
  intro x hx
  have := h ⟨x.toNat, x.toNat_lt⟩ hx
  simpa using this
theorem run_ix (x : UInt8) (w : World) : (callFunc 60 #[.string crlf, .int .u8 (x.toNat : Int)]).run Tryd.prog w = .ok (.value (.int .i64 (ixI x))) w := by
  rw [run_callFunc_extern Tryd.func60 (by kernel_rfl) (by kernel_rfl) (by kernel_rfl) (e := Extern.BytealgIndexByte.indexByte) (by kernel_rfl), Lib.run_indexByteString]
  simp only [Result.andThen]
  unfold ixI
  rw [show ((x.toNat : Int).toNat.toUInt8) = x by simp]

set_option maxHeartbeats 4000000 in
set_option maxRecDepth 100000 in
/-- one byte -/
theorem indexAny_one (x : UInt8) (b o c : Nat) (w : World) (h : w.cell? ⟨b, o, none⟩ = some (.int .u8 (x.toNat : Int))) :
    Calls Tryd.prog 39 #[.slice (some ⟨b, o, none⟩) 1 c, .string crlf] w fun e w' => e = .returned (.int .i64 (endI [x])) ∧ Below w.heap.size w w' := by
  have hx := x.toNat_lt
  have hx2 : (x.toNat : Int) ≤ 255 := by omega
  have hix := run_ix x
  by_cases h128 : (128 : Int) ≤ (x.toNat : Int)
  · have HE := Lib.hid (endI_none [x] (fun j hj => by
      obtain rfl : j = 0 := by simpa using hj
      exact end_small x (by omega)))
    go_enter Tryd.func39, Tryd.ntmps39
    go_wp2_with fail
    go_loopw [5] (fun i wr => ∃ k : Nat, k ≤ 2 ∧ wr = w.iter crlf k) (fun _ wr => 2 - wr.iterPos w.heap.size)
    case atStart => exact ⟨0, by omega, rfl⟩
    case round =>
      obtain ⟨k, hk, rfl⟩ := hrel
      have h3 : k = 0 ∨ k = 1 ∨ k = 2 := by omega
      rcases h3 with rfl | rfl | rfl
      · have hnx := fun ty => run_next_ascii (P := Tryd.prog) w crlf 0 ty (by decide) (by decide)
        rw [show (crlf[0]'(by decide)).toNat = 13 by rfl] at hnx
        go_wp2_with fail
        go_roundw
        case rel => exact ⟨1, by omega, rfl⟩
        case measure => simp
      · have hnx := fun ty => run_next_ascii (P := Tryd.prog) w crlf 1 ty (by decide) (by decide)
        rw [show (crlf[1]'(by decide)).toNat = 10 by rfl] at hnx
        go_wp2_with fail
        go_roundw
        case rel => exact ⟨2, by omega, rfl⟩
        case measure => simp
      · have hnx := fun ty => run_next_end (P := Tryd.prog) w crlf 2 ty (by decide)
        go_wp2_with fail
        go_ret
        exact ⟨by rw [HE.out]; rfl, (Below.refl _ _).alloc (Nat.le_refl _) _⟩
  · by_cases he : endB x = true
    · have hi : 0 ≤ ixI x := (ixI_end x).2 he
      have HE := Lib.hid (endI_at [x] 0 (by simp) he (fun j _ h => absurd h (Nat.not_lt_zero j)))
      clear he
      go_enter Tryd.func39, Tryd.ntmps39
      go_wp2_with fail
      go_ret
      exact ⟨by rw [HE.out]; rfl, Below.refl _ _⟩
    · have hi : ¬ 0 ≤ ixI x := fun h => he ((ixI_end x).1 h)
      have HE := Lib.hid (endI_none [x] (fun j hj => by
        obtain rfl : j = 0 := by simpa using hj
        simpa using he))
      clear he
      go_enter Tryd.func39, Tryd.ntmps39
      go_wp2_with fail
      go_ret
      exact ⟨by rw [HE.out]; rfl, Below.refl _ _⟩
/-- a good rune of so many bytes -/
def RuneK (R K : Nat) : Prop := (K = 2 ∧ 128 ≤ R ∧ R ≤ 2047) ∨ (K = 3 ∧ 2048 ≤ R ∧ R ≤ 65535 ∧ ¬ (55296 ≤ R ∧ R ≤ 57343)) ∨ (K = 4 ∧ 65536 ≤ R ∧ R ≤ 1114111)
theorem enc_size (R K : Nat) (h : RuneK R K) : (Utf8.encode (R : Int)).size = K := by
  rcases h with ⟨rfl, h1, h2⟩ | ⟨rfl, h1, h2, h3⟩ | ⟨rfl, h1, h2⟩
  · have v : Utf8.valid (R : Int) = true := by simp [Utf8.valid]; omega
    have c1 : ¬ R < 128 := by omega
    have c2 : R < 2048 := by omega
    simp [Utf8.encode, v, c1, c2]; rfl
  · have v : Utf8.valid (R : Int) = true := by simp [Utf8.valid]; omega
    have c1 : ¬ R < 128 := by omega
    have c2 : ¬ R < 2048 := by omega
    have c3 : R < 65536 := by omega
    simp [Utf8.encode, v, c1, c2, c3]; rfl
  · have v : Utf8.valid (R : Int) = true := by simp [Utf8.valid]; omega
    have c1 : ¬ R < 128 := by omega
    have c2 : ¬ R < 2048 := by omega
    have c3 : ¬ R < 65536 := by omega
    simp [Utf8.encode, v, c1, c2, c3]; rfl
theorem enc_two (R : Nat) (h1 : 128 ≤ R) (h2 : R ≤ 2047) : (Utf8.encode (R : Int)).data.toList ≠ [13, 10] := by
  have v : Utf8.valid (R : Int) = true := by simp [Utf8.valid]; omega
  have c1 : ¬ R < 128 := by omega
  have c2 : R < 2048 := by omega
  simp [Utf8.encode, v, c1, c2]
  intro h
  have := congrArg UInt8.toNat h
  simp at this
  omega
theorem run_isx (t : ByteArray) (m : Int) (w : World) (hm : w.cell? ⟨0, 0, none⟩ = some (.int .i64 m)) (h3 : 3 ≤ t.size) (hb : (t.size : Int) ≤ m) :
    (callFunc 66 #[.string crlf, .string t]).run Tryd.prog w = .ok (.value (.int .i64 (-1))) w := by
  rw [run_callFunc_extern Tryd.func66 (by kernel_rfl) (by kernel_rfl) (by kernel_rfl) (e := Extern.BytealgIndex.index) (by kernel_rfl), Lib.run_indexString crlf t w 0 m (by kernel_rfl) hm (by omega) hb (by decide)]
  simp only [Result.andThen]
  have hl : t.data.toList.length = t.size := by rw [Array.length_toList]; rfl
  rw [Lib.index_long (by rw [hl]; show 2 ≤ _; omega) (fun h => by
    have := congrArg List.length h
    rw [hl] at this
    change t.size = 2 at this
    omega)]

/-- what the decoding of a byte of 128 or more tells -/
theorem decN_facts (n b0 b1 b2 b3 : Nat) (h : 128 ≤ b0) (hn : 1 ≤ n) :
    128 ≤ (Lib.decodeN n b0 b1 b2 b3).1 ∧ 1 ≤ (Lib.decodeN n b0 b1 b2 b3).2 ∧ (Lib.decodeN n b0 b1 b2 b3).2 ≤ 4 ∧ (Lib.decodeN n b0 b1 b2 b3).2 ≤ n ∧ (Lib.decodeN n b0 b1 b2 b3).1 ≤ 1114111 ∧
    (1 < (Lib.decodeN n b0 b1 b2 b3).2 → 128 ≤ b1) ∧ (2 < (Lib.decodeN n b0 b1 b2 b3).2 → 128 ≤ b2) ∧ (3 < (Lib.decodeN n b0 b1 b2 b3).2 → 128 ≤ b3) ∧ ((Lib.decodeN n b0 b1 b2 b3).1 ≠ 65533 → RuneK (Lib.decodeN n b0 b1 b2 b3).1 (Lib.decodeN n b0 b1 b2 b3).2) := by
  unfold RuneK
  unfold Lib.decodeN
  repeat' split
  all_goals dsimp only
  all_goals refine ⟨by omega, by omega, by omega, by omega, by omega, by omega, by omega, by omega, fun hne => ?_⟩
  all_goals first | omega | exact .inl ⟨rfl, by omega, by omega⟩ | exact .inr (.inl ⟨rfl, by omega, by omega, by omega⟩) | exact .inr (.inr ⟨rfl, by omega, by omega⟩)

theorem strs_eq0 (a b : ByteArray) : (a.toList == b.toList) = decide (a.data.toList = b.data.toList) := by
  rw [Lib.toList_data, Lib.toList_data]
  by_cases h : a.data.toList = b.data.toList
  · rw [decide_eq_true h]; exact beq_iff_eq.2 h
  · rw [decide_eq_false h]; exact beq_eq_false_iff_ne.2 h
theorem get_list (s : List UInt8) (j : Nat) : ((⟨s.toArray⟩ : ByteArray).get! j) = s.getD j 0 := by
  show (s.toArray)[j]! = _
  rw [List.getD_eq_getElem?_getD]
  by_cases h : j < s.length
  · rw [getElem!_pos _ j (by simpa using h), List.getElem?_eq_getElem h]; simp
  · rw [getElem!_neg _ j (by simpa using h), List.getElem?_eq_none (by omega)]; rfl
theorem decL_facts (s : List UInt8) (h0 : 0 < s.length) (h : 128 ≤ s[0].toNat) :
    128 ≤ (Lib.decodeL s).1 ∧ 1 ≤ (Lib.decodeL s).2 ∧ (Lib.decodeL s).2 ≤ 4 ∧ (Lib.decodeL s).2 ≤ s.length ∧ (Lib.decodeL s).1 ≤ 1114111 ∧ ((Lib.decodeL s).1 ≠ 65533 → RuneK (Lib.decodeL s).1 (Lib.decodeL s).2) ∧
    ∀ j, (hj : j < s.length) → j < (Lib.decodeL s).2 → endB s[j] = false := by
  unfold Lib.decodeL
  rw [Lib.decode_at]
  have hz : (⟨s.toArray⟩ : ByteArray).size = s.length := by show s.toArray.size = _; simp
  have g : ∀ j, (hj : j < s.length) → s.getD j 0 = s[j] := fun j hj => by rw [List.getD_eq_getElem?_getD, List.getElem?_eq_getElem hj]; rfl
  rw [get_list, get_list, get_list, get_list, hz, Nat.sub_zero]
  have f := decN_facts s.length (s.getD 0 0).toNat (s.getD (0 + 1) 0).toNat (s.getD (0 + 2) 0).toNat (s.getD (0 + 3) 0).toNat (by rw [g 0 h0]; exact h) h0
  obtain ⟨f1, f2, f3, f4, f5, f6, f7, f8, f9⟩ := f
  refine ⟨f1, f2, f3, f4, f5, f9, fun j hj hjk => end_small _ ?_⟩
  have h4 : j = 0 ∨ j = 1 ∨ j = 2 ∨ j = 3 := by omega
  rcases h4 with rfl | rfl | rfl | rfl
  · exact h
  · rw [← g 1 hj]; exact f6 hjk
  · rw [← g 2 hj]; exact f7 hjk
  · rw [← g 3 hj]; exact f8 hjk
theorem decRune_any (s : List UInt8) (b o c : Nat) (w : World) (hT : Lib.Utf8Tabs 2 3 w) (h0 : 0 < s.length) (hp : ∀ j, (hj : j < s.length) → w.cell? ⟨b, o + j, none⟩ = some (.int .u8 (s[j].toNat : Int))) :
    Calls Tryd.prog 65 #[.slice (some ⟨b, o, none⟩) s.length c] w fun e w' => e = .returned (.tuple #[.int .i32 ((Lib.decodeL s).1 : Int), .int .i64 ((Lib.decodeL s).2 : Int)]) ∧ Below w.heap.size w w' := by
  have hz : (⟨s.toArray⟩ : ByteArray).size = s.length := by show s.toArray.size = _; simp
  have := Any7.utf8_DecodeRune Tryd.laysLayDec ⟨s.toArray⟩ b o c w hT (fun j hj => by
    rw [hz] at hj
    rw [hp j hj, get_list, List.getD_eq_getElem?_getD, List.getElem?_eq_getElem hj]; rfl)
  rw [hz] at this
  have e : Lib.decodeGo ⟨s.toArray⟩ = Lib.decodeL s := by
    unfold Lib.decodeGo Lib.decodeL
    rw [if_neg (by rw [hz]; omega)]
  rw [e] at this
  exact this

set_option maxHeartbeats 8000000 in
set_option maxRecDepth 100000 in
/-- at most eight bytes -/
theorem indexAny_short (l : List UInt8) (p : Option Addr) (n c : Nat) (hn : l.length = n) (hle : n ≤ c) (h8 : n ≤ 8) (h1 : n ≠ 1) (m : Int) (w : World) (hT : Lib.Utf8Tabs 2 3 w) (hm : w.cell? ⟨0, 0, none⟩ = some (.int .i64 m)) (h : In8 w p l) :
    Calls Tryd.prog 39 #[.slice p n c, .string crlf] w fun e w' => e = .returned (.int .i64 (endI l)) ∧ Below w.heap.size w w' := by
  subst hn
  have n1 : ((l.length : Int) == 1) = false := beq_eq_false_iff_ne.2 (by omega)
  have n8 : ¬ (8 : Int) < (l.length : Int) := by omega
  go_enter Tryd.func39, Tryd.ntmps39
  go_wp2_with (go_at_call 62; go_in)
  go_loopw [11, 12] (fun v i wr => ∃ k : Nat, k ≤ l.length ∧ i = .int .i64 k ∧ Below w.heap.size w wr ∧ ∀ j, (hj : j < l.length) → j < k → endB l[j] = false) (fun _ i _ => l.length - (intOf i).toNat)
  case atStart => exact ⟨0, by omega, rfl, Below.refl _ _, fun j _ h => absurd h (Nat.not_lt_zero j)⟩
  case round =>
    obtain ⟨k, hk, rfl, hb, h0⟩ := hrel
    have H0 := Lib.hid h0
    clear h0
    by_cases hlt : k < l.length
    · obtain ⟨b, o, rfl, hc⟩ := (h.below hb).at hlt
      have hck := hc k hlt
      rw [bt_get l k hlt] at hck
      have HC := Lib.hid (fun i (hi : i < l.length) => (hc i hi).trans (by rw [bt_get l i hi]))
      clear hc
      have hx := l[k].toNat_lt
      have hx2 : (l[k].toNat : Int) ≤ 255 := by omega
      have hix := run_ix l[k]
      by_cases h128 : (128 : Int) ≤ (l[k].toNat : Int)
      · have hd0 : (l.drop k)[0]'(by rw [List.length_drop]; omega) = l[k] := by rw [List.getElem_drop]; rfl
        have hdl : (l.drop k).length = l.length - k := List.length_drop ..
        obtain ⟨f1, f2, f3, f4, f5, f6, f7⟩ := decL_facts (l.drop k) (by omega) (by rw [hd0]; omega)
        have hrun := decRune_any (l.drop k) b (o + k) (c - k) wr (Utf8Tabs_below hT hb) (by omega) (fun j hj => by
          rw [hdl] at hj
          rw [Nat.add_assoc, HC.out (k + j) (by omega)]
          rw [List.getElem_drop])
        rw [hdl] at hrun f4
        obtain ⟨R, hR⟩ : ∃ R, R = (Lib.decodeL (l.drop k)).1 := ⟨_, rfl⟩
        obtain ⟨K, hK⟩ : ∃ K, K = (Lib.decodeL (l.drop k)).2 := ⟨_, rfl⟩
        rw [← hR, ← hK] at hrun
        rw [← hR] at f1 f5 f6
        rw [← hK] at f2 f3 f4 f6
        have F7 := Lib.hid f7
        have HR := Lib.hid hR
        have HK := Lib.hid hK
        clear f7 hR hK hd0 hdl
        have HS := Lib.hid (show ∀ j, (hj : j < l.length) → j < k + K → endB l[j] = false from fun j hj hjk => by
          by_cases h : j < k
          · exact H0.out j hj h
          · have := F7.out (j - k) (by rw [List.length_drop]; omega) (by rw [← HK.out]; omega)
            rw [List.getElem_drop] at this
            rw [← this]
            congr 1
            congr 1
            omega)
        have hm2 : ∀ w2, Below wr.heap.size wr w2 → w2.cell? ⟨0, 0, none⟩ = some (.int .i64 m) := fun w2 h2 => by
          have hl := World.block_lt_of_cell? w _ hm
          have hz := hb.size
          rw [h2.cell (show (⟨0, 0, none⟩ : Addr).block < wr.heap.size by omega), hb.cell hl]
          exact hm
        have HM2 := Lib.hid hm2
        clear hm2
        by_cases hRe : R = 65533
        · have hRi : ((R : Int) != 65533) = false := by subst hRe; rfl
          have hr13 : ((R : Int) == 13) = false := by subst hRe; rfl
          have hr10 : ((R : Int) == 10) = false := by subst hRe; rfl
          clear hRe f6
          go_wp2_with fail
          refine hrun.mono ?_
          rintro e w2 ⟨rfl, hb2⟩
          have hz2 := hb2.size
          go_wp2_with fail
          go_loopw [15] (fun _ wx => ∃ q : Nat, q ≤ 2 ∧ wx = w2.iter crlf q) (fun _ wx => 2 - wx.iterPos w2.heap.size)
          case atStart => exact ⟨0, by omega, rfl⟩
          case round =>
            obtain ⟨q, hq, rfl⟩ := hrel
            have h3 : q = 0 ∨ q = 1 ∨ q = 2 := by omega
            rcases h3 with rfl | rfl | rfl
            · have hnx := fun ty => run_next_ascii (P := Tryd.prog) w2 crlf 0 ty (by decide) (by decide)
              rw [show (crlf[0]'(by decide)).toNat = 13 by rfl] at hnx
              go_wp2_with fail
              go_roundw
              case rel => exact ⟨1, by omega, rfl⟩
              case measure => simp
            · have hnx := fun ty => run_next_ascii (P := Tryd.prog) w2 crlf 1 ty (by decide) (by decide)
              rw [show (crlf[1]'(by decide)).toNat = 10 by rfl] at hnx
              go_wp2_with fail
              go_roundw
              case rel => exact ⟨2, by omega, rfl⟩
              case measure => simp
            · have hnx := fun ty => run_next_end (P := Tryd.prog) w2 crlf 2 ty (by decide)
              go_wp2_with fail
              go_roundw
              case rel => exact ⟨k + K, by omega, by go_num, (hb.trans (hb2.mono hb.size)).alloc (by have := hb.size; omega) _, HS.out⟩
              case measure => simp [intOf]; omega
        · have hRi : ((R : Int) != 65533) = true := by simp; omega
          have hrk := f6 hRe
          have hes := enc_size R K hrk
          clear hRe f6
          by_cases hK2 : K = 2
          · have hKi : ((2 : Int) == (K : Int)) = true := by subst hK2; rfl
            have hne : ([13, 10] == (Utf8.encode (R : Int)).toList) = false := by
              rw [show ([13, 10] : List UInt8) = crlf.toList from (Lib.toList_data crlf).symm, strs_eq0, decide_eq_false]
              intro h
              refine enc_two R (by omega) ?_ h.symm
              rcases hrk with h | h | h <;> omega
            clear hes hrk
            go_wp2_with fail
            refine hrun.mono ?_
            rintro e w2 ⟨rfl, hb2⟩
            have hz2 := hb2.size
            go_wp2_with fail
            go_roundw
            case measure => simp [intOf]; omega
            case rel => exact ⟨k + 2, by omega, by go_num, hb.trans (hb2.mono hb.size), fun j hj hjk => HS.out j hj (by omega)⟩
          · have hKi : ((2 : Int) == (K : Int)) = false := by simp; omega
            have h3 : 3 ≤ K := by rcases hrk with h | h | h <;> omega
            clear hrk hK2
            by_cases hKm : (K : Int) ≤ m
            · have HX := Lib.hid (fun w2 h2 => run_isx (Utf8.encode (R : Int)) m w2 (HM2.out w2 h2) (by omega) (by omega))
              clear hes
              go_wp2_with fail
              refine hrun.mono ?_
              rintro e w2 ⟨rfl, hb2⟩
              have hz2 := hb2.size
              have hmm := HM2.out w2 hb2
              have hxx := HX.out w2 hb2
              go_wp2_with fail
              go_roundw
              case rel => exact ⟨k + K, by omega, by go_num, hb.trans (hb2.mono hb.size), HS.out⟩
              case measure => simp [intOf]; omega
            · have hr13 : ((R : Int) == 13) = false := by simp; omega
              have hr10 : ((R : Int) == 10) = false := by simp; omega
              clear hes
              go_wp2_with fail
              refine hrun.mono ?_
              rintro e w2 ⟨rfl, hb2⟩
              have hz2 := hb2.size
              have hmm := HM2.out w2 hb2
              go_wp2_with fail
              go_loopw [15] (fun _ wx => ∃ q : Nat, q ≤ 2 ∧ wx = w2.iter crlf q) (fun _ wx => 2 - wx.iterPos w2.heap.size)
              case atStart => exact ⟨0, by omega, rfl⟩
              case round =>
                obtain ⟨q, hq, rfl⟩ := hrel
                have h3 : q = 0 ∨ q = 1 ∨ q = 2 := by omega
                rcases h3 with rfl | rfl | rfl
                · have hnx := fun ty => run_next_ascii (P := Tryd.prog) w2 crlf 0 ty (by decide) (by decide)
                  rw [show (crlf[0]'(by decide)).toNat = 13 by rfl] at hnx
                  go_wp2_with fail
                  go_roundw
                  case rel => exact ⟨1, by omega, rfl⟩
                  case measure => simp
                · have hnx := fun ty => run_next_ascii (P := Tryd.prog) w2 crlf 1 ty (by decide) (by decide)
                  rw [show (crlf[1]'(by decide)).toNat = 10 by rfl] at hnx
                  go_wp2_with fail
                  go_roundw
                  case rel => exact ⟨2, by omega, rfl⟩
                  case measure => simp
                · have hnx := fun ty => run_next_end (P := Tryd.prog) w2 crlf 2 ty (by decide)
                  go_wp2_with fail
                  go_roundw
                  case rel => exact ⟨k + K, by omega, by go_num, (hb.trans (hb2.mono hb.size)).alloc (by have := hb.size; omega) _, HS.out⟩
                  case measure => simp [intOf]; omega
      · by_cases he : endB l[k] = true
        · have hi : 0 ≤ ixI l[k] := (ixI_end _).2 he
          have HE := Lib.hid (endI_at l k hlt he H0.out)
          clear he
          go_wp2_with fail
          go_ret
          exact ⟨by rw [HE.out]; rfl, hb⟩
        · have hi : ¬ 0 ≤ ixI l[k] := fun h => he ((ixI_end _).1 h)
          have HE := Lib.hid he
          clear he
          go_wp2_with fail
          go_roundw
          case rel =>
            refine ⟨k + 1, by omega, by go_num, hb, fun j hj hjk => ?_⟩
            by_cases h : j < k
            · exact H0.out j hj h
            · obtain rfl : j = k := by omega
              simpa using HE.out
          case measure => simp [intOf]; omega
    · obtain rfl : k = l.length := by omega
      have HE := Lib.hid (endI_none l (fun j hj => H0.out j hj hj))
      go_wp2_with fail
      go_ret
      exact ⟨by rw [HE.out]; rfl, hb⟩

/-- where a line ends, at any bytes -/
theorem indexAny_any (l : List UInt8) (p : Option Addr) (n c : Nat) (hn : l.length = n) (hle : n ≤ c) (hm : n ≤ 140737488351232) (m : Int) (w : World) (hT : Lib.Utf8Tabs 2 3 w) (hM : w.cell? ⟨0, 0, none⟩ = some (.int .i64 m)) (h : In8 w p l) :
    Calls Tryd.prog 39 #[.slice p n c, .string crlf] w fun e w' => e = .returned (.int .i64 (endI l)) ∧ Below w.heap.size w w' := by
  by_cases h8 : 8 < n
  · exact indexAny_long l p n c hn h8 hm w h
  · by_cases h1 : n = 1
    · subst h1
      obtain ⟨x, rfl⟩ := List.length_eq_one_iff.1 hn
      obtain ⟨b, o, rfl, hc⟩ := h.at (k := 0) (by simp)
      have := hc 0 (by simp)
      rw [bt_get _ 0 (by simp)] at this
      exact indexAny_one x b o c w this
    · exact indexAny_short l p n c hn hle (by omega) h1 m w hT hM h
end Go.Proofs.YtpgjlepjhbjhfaaDoor
