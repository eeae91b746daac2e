/-
  Print: the program's and the document's.
-/
import Derived.Test.YtpgjlepjhbjhfaaDoorAlive4
import Derived.Test.YtpgjlepjhbjhfaaDoorFields
import Derived.Lib.BufferMore
namespace Go.Proofs.YtpgjlepjhbjhfaaDoor
open Go.RowKit

/-- a field as a line -/
def lineF (x : Pair) : List UInt8 := x.1 ++ [58, 32] ++ x.2 ++ [13, 10]
def linesF (L : List Pair) : List UInt8 := (L.map lineF).flatten
def okF (x : Pair) : Bool := isTok x.1 && goodT x.2
def okAll (L : List Pair) : Bool := L.all okF
/-- the lines, and the error's number -/
def printT (L : List Pair) : List UInt8 × Nat := if okAll L = true then (if 100 < L.length then ([], 42) else (linesF L, 0)) else ([], 40)
theorem linesF_snoc (L : List Pair) (k : Nat) (h : k < L.length) : linesF (L.take (k + 1)) = linesF (L.take k) ++ lineF L[k] := by
  unfold linesF
  rw [List.take_succ_eq_append_getElem h, List.map_append, List.flatten_append]
  simp
theorem linesF_take (L : List Pair) (k : Nat) : (linesF (L.take k)).length ≤ (linesF L).length := by
  unfold linesF
  rw [← List.take_append_drop k (L.map lineF), List.flatten_append, List.length_append, List.map_take]
  omega
theorem okAll_snoc (L : List Pair) (k : Nat) (h : k < L.length) : okAll (L.take (k + 1)) = (okAll (L.take k) && okF L[k]) := by
  unfold okAll
  rw [List.take_succ_eq_append_getElem h, List.all_append]
  simp
theorem okAll_not (L : List Pair) (k : Nat) (h : k < L.length) (hk : okF L[k] = false) : printT L = ([], 40) := by
  unfold printT
  rw [if_neg]
  intro ha
  have := List.all_eq_true.1 ha L[k] (List.getElem_mem h)
  rw [hk] at this
  cases this

theorem isBuffer_below {T e : TypeId} {B b : Nat} {bs : List Value} {w w' : World} (h : Lib.IsBuffer T e B b bs w) (hb : Below w.heap.size w w') : Lib.IsBuffer T e B b bs w' := by
  have hlt := h.lt
  obtain ⟨h0, v, lr, h1, h2, h3⟩ := h
  exact ⟨h0, v, lr, (hb.block b hlt).trans h1, ownsRow_below h2 hb, h3⟩

set_option maxHeartbeats 4000000 in
theorem print_any (L : List Pair) (p : Option Addr) (n c : Nat) (hn : L.length = n) (hr : n ≤ 4400000000000) (w : World) (h : In2 w p L) (hsz : ∀ x ∈ L, x.1.length ≤ 1048576 ∧ x.2.length ≤ 1048576) (hl : (linesF L).length ≤ 1073741824) :
    Calls Tryd.prog 28 #[.slice p n c] w fun e w' => ∃ v, e = .returned (.tuple #[v, .int .i64 ((printT L).2 : Int)]) ∧ Own8 w' w.heap.size v (printT L).1 ∧ Below w.heap.size w w' := by
  subst hn
  have HSZ := Lib.hid hsz
  have HLL := Lib.hid (fun k => Nat.le_trans (linesF_take L k) hl)
  clear hsz
  go_enter Tryd.func28, Tryd.ntmps28
  go_wp2_with fail
  go_loopw [9] (fun i wr => ∃ k : Nat, k ≤ L.length ∧ i = .int .i64 k ∧ okAll (L.take k) = true ∧ Lib.IsBuffer 66 5 w.heap.size w.heap.size (by8 (linesF (L.take k))) wr ∧ Below w.heap.size w wr) (fun i _ => L.length - (intOf i).toNat)
  case atStart => exact ⟨0, by omega, rfl, rfl, Lib.fresh_isBuffer _ _ w, (Below.refl _ _).alloc (Nat.le_refl _) _⟩
  case round =>
    obtain ⟨k, hk, rfl, hok, hbuf, hb⟩ := hrel
    have hbs := hb.size
    have HO := Lib.hid hok
    clear hok
    by_cases hlt : k < L.length
    · obtain ⟨b, o, rfl, x, y, g1, g2, g3, g4⟩ := (h.below hb).at hlt
      obtain ⟨z1, z2⟩ := HSZ.out _ (List.getElem_mem hlt)
      have hxs : x.size ≤ 1048576 := by rw [← size_list, g3]; exact z1
      have hys : y.size ≤ 1048576 := by rw [← size_list, g4]; exact z2
      have hxm : x.size ≤ maxLen := by unfold maxLen; omega
      have hym : y.size ≤ maxLen := by unfold maxLen; omega
      have ho : okF L[k] = (isTok x.data.toList && goodT y.data.toList) := by unfold okF; rw [g3, g4]
      have HV := Lib.hid (linesF_snoc L k hlt)
      have HA := Lib.hid (okAll_snoc L k hlt)
      have HN := Lib.hid (okAll_not L k hlt)
      have HL := Lib.hid (show lineF L[k] = x.data.toList ++ [58, 32] ++ y.data.toList ++ [13, 10] by unfold lineF; rw [g3, g4])
      have HF := Lib.hid ho
      clear g3 g4 z1 z2 ho
      have hb0 := hb.alloc hbs (.cells #[.string x, .string y] 26)
      have hs0 : (wr.alloc (.cells #[.string x, .string y] 26)).heap.size = wr.heap.size + 1 := by simp
      have ha0 := heap_alloc_new wr (.cells #[.string x, .string y] 26)
      have hbuf0 := isBuffer_below hbuf ((Below.refl _ wr).alloc (Nat.le_refl _) (.cells #[.string x, .string y] 26))
      have c0 : (wr.alloc (.cells #[.string x, .string y] 26)).cell? ⟨wr.heap.size, 0, none⟩ = some (.string x) := by rw [cell_of_row _ _ _ _ _ _ ha0]; rfl
      have c1 : (wr.alloc (.cells #[.string x, .string y] 26)).cell? ⟨wr.heap.size, 1, none⟩ = some (.string y) := by rw [cell_of_row _ _ _ _ _ _ ha0]; rfl
      cases ht : isTok x.data.toList with
      | false =>
        have HR := Lib.hid (HN.out (by rw [HF.out, ht]; rfl))
        have htk := tok_any x (wr.alloc (.cells #[.string x, .string y] 26)) hxm
        rw [ht] at htk
        clear ht
        go_wp2_with fail
        refine htk.mono ?_
        rintro e w1 ⟨rfl, rfl⟩
        go_wp2_with fail
        go_ret2
        refine ⟨.slice none 0 0, by rw [HR.out]; rfl, by rw [HR.out]; exact Own8.nil _ _, hb0⟩
      | true =>
        have htk := tok_any x (wr.alloc (.cells #[.string x, .string y] 26)) hxm
        rw [ht] at htk
        go_wp2_with fail
        refine htk.mono ?_
        rintro e w1 ⟨rfl, rfl⟩
        cases hg : goodT y.data.toList with
        | false =>
          have HR := Lib.hid (HN.out (by rw [HF.out, ht, hg]; rfl))
          have hgd := good_any y (wr.alloc (.cells #[.string x, .string y] 26)) hym
          rw [hg] at hgd
          clear ht hg
          go_wp2_with fail
          refine hgd.mono ?_
          rintro e w2 ⟨rfl, hb2⟩
          go_wp2_with fail
          go_ret2
          refine ⟨.slice none 0 0, by rw [HR.out]; rfl, by rw [HR.out]; exact Own8.nil _ _, hb0.trans (hb2.mono (by omega))⟩
        | true =>
          have hgd := good_any y (wr.alloc (.cells #[.string x, .string y] 26)) hym
          rw [hg] at hgd
          have HOK := Lib.hid (show okAll (L.take (k + 1)) = true by rw [HA.out, HO.out, HF.out, ht, hg]; rfl)
          clear ht hg
          go_wp2_with fail
          refine hgd.mono ?_
          rintro e w2 ⟨rfl, hb2⟩
          have hb2' := hb0.trans (hb2.mono (by omega))
          have hs2 := hb2'.size
          have d0 := cell_keep c0 hb2
          have d1 := cell_keep c1 hb2
          have hbuf2 := isBuffer_below hbuf0 hb2
          clear c0 c1 htk hgd hb2 hbuf hbuf0
          go_wp2_with fail
          have hll := HLL.out (k + 1)
          rw [HV.out, HL.out] at hll
          simp only [List.length_append, size_list, List.length_cons, List.length_nil] at hll
          have hone : ∀ v ∈ by8 (linesF (L.take k)), v.oneCell' = true := by
            intro v hv
            unfold by8 at hv
            obtain ⟨u, _, rfl⟩ := List.mem_map.1 hv
            rfl
          have hws := Tryd.Buffer_WriteString w.heap.size w.heap.size (by8 (linesF (L.take k))) (x ++ ⟨#[58, 32]⟩ ++ y ++ ⟨#[13, 10]⟩) w2 hbuf2 hs2 hone (by
            rw [by8_length, ← size_list]
            simp only [ByteArray.data_append, Array.toList_append, List.length_append, size_list]
            simp
            omega)
          rw [show by8 (linesF (L.take k)) ++ Lib.byteCells (x ++ ⟨#[58, 32]⟩ ++ y ++ ⟨#[13, 10]⟩ : ByteArray).data.toList = by8 (linesF (L.take (k + 1))) by
            rw [HV.out, HL.out, by8_append]
            rfl] at hws
          clear hone hll
          refine hws.mono ?_
          rintro e w3 ⟨rfl, hbuf3, hb3⟩
          clear hws
          go_wp2_with fail
          go_roundw
          case rel => exact ⟨k + 1, by omega, by go_num, HOK.out, hbuf3, hb2'.trans hb3⟩
          case measure => simp [intOf]; omega
    · obtain rfl : k = L.length := by omega
      rw [List.take_length] at hbuf HO
      by_cases h100 : 100 < L.length
      · have HR := Lib.hid (show printT L = ([], 42) by unfold printT; rw [if_pos HO.out, if_pos h100])
        have h100i : (100 : Int) < (L.length : Int) := by omega
        go_wp2_with fail
        go_ret2
        exact ⟨.slice none 0 0, by rw [HR.out]; rfl, by rw [HR.out]; exact Own8.nil _ _, hb⟩
      · have HR := Lib.hid (show printT L = (linesF L, 0) by unfold printT; rw [if_pos HO.out, if_neg h100])
        have h100i : ¬ (100 : Int) < (L.length : Int) := by omega
        go_wp2_with fail
        refine (Tryd.Buffer_Bytes _ _ _ wr hbuf).mono ?_
        rintro e w2 ⟨v2, rfl, hown2, m2, rfl⟩
        rw [by8_length] at hown2
        go_wp2_with fail
        go_ret2
        exact ⟨v2, by rw [HR.out]; rfl, by rw [HR.out]; exact hown2, bdrewN hb _⟩
end Go.Proofs.YtpgjlepjhbjhfaaDoor
