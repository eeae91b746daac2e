/-
  Get, the program's and the document's: the values of a name, joined.
-/
import Derived.Test.YtpgjlepjhbjhfaaDoorFields
import Derived.Test.YtpgjlepjhbjhfaaDoorShelf
namespace Go.Proofs.YtpgjlepjhbjhfaaDoor
open Go.RowKit

def joinT (V : List (List UInt8)) : List UInt8 := Lib.join V [44, 32]
def joinW (V : List (List UInt8)) : Nat := (V.map fun v => v.length + 2).sum
theorem joinT_nil : joinT [] = [] := rfl
theorem joinT_first (V : List (List UInt8)) (h : 0 < V.length) : joinT (V.take 1) = V[0] := by
  match V, h with
  | x :: r, _ => simp [joinT, Lib.join_one]
theorem joinT_snoc (V : List (List UInt8)) (k : Nat) (h : k < V.length) (h0 : 0 < k) : joinT (V.take (k + 1)) = joinT (V.take k) ++ [44, 32] ++ V[k] := by
  match V, k, h, h0 with
  | x :: r, j + 1, h, _ =>
    have hj : j < r.length := by simpa using h
    unfold joinT
    rw [List.take_succ_cons, List.take_succ_cons, Lib.join_cons, Lib.join_cons, Lib.joinTail_take_succ _ r j r[j] (List.getElem?_eq_getElem hj)]
    simp
theorem joinT_len (V : List (List UInt8)) : (joinT V).length ≤ joinW V := by
  have tail : ∀ r : List (List UInt8), (Lib.joinTail [44, 32] r).length = joinW r := by
    intro r
    induction r with
    | nil => rfl
    | cons y r ih =>
      simp only [Lib.joinTail, joinW, List.map_cons, List.flatten_cons, List.length_append, List.sum_cons, List.length_cons, List.length_nil] at ih ⊢
      omega
  cases V with
  | nil => simp [joinT, Lib.join_nil]
  | cons x r =>
    unfold joinT
    rw [Lib.join_cons, List.length_append, tail]
    simp only [joinW, List.map_cons, List.sum_cons]
    omega
theorem joinW_take (V : List (List UInt8)) (k : Nat) : joinW (V.take k) ≤ joinW V := by
  conv => rhs; rw [← List.take_append_drop k V]
  unfold joinW
  rw [List.map_append, List.sum_append]
  omega
theorem joinW_mem (V : List (List UInt8)) : ∀ v ∈ V, v.length + 2 ≤ joinW V := by
  induction V with
  | nil => simp
  | cons x r ih =>
    intro v hv
    simp only [joinW, List.map_cons, List.sum_cons] at ih ⊢
    rcases List.mem_cons.1 hv with rfl | hv
    · omega
    · have := ih v hv; omega

/-- Join of a row of texts -/
theorem join_any (V : List (List UInt8)) (p : Option Addr) (n c : Nat) (hn : V.length = n) (hc : n ≤ c) (hm : n ≤ 140737488355328) (sep : ByteArray) (hl : (Lib.join V sep.data.toList).length ≤ 140737488355328) (w : World) (h : InS w p V) :
    Calls Tryd.prog 34 #[.slice p n c, .string sep] w fun e w' => e = .returned (.string ⟨(Lib.join V sep.data.toList).toArray⟩) ∧ Below w.heap.size w w' := by
  subst hn
  cases V with
  | nil =>
    refine (Tryd.strings_Join_none p c sep w).mono ?_
    rintro e w' ⟨rfl, rfl⟩
    exact ⟨rfl, Below.refl _ _⟩
  | cons x r =>
    obtain ⟨b, o, rfl, a, hca, _⟩ := h.at (k := 0) (by simp)
    have hb := World.block_lt_of_cell? w _ hca
    obtain ⟨b', o', e, hall⟩ := InV.at h (k := 0) (by rw [tx_length]; simp)
    injection e with e
    injection e with e1 e2 _
    subst e1 e2
    have e : (((x :: r).map fun l => (⟨l.toArray⟩ : ByteArray)).map (·.data.toList)) = x :: r := by
      rw [List.map_map]; exact List.map_id' _
    have := Tryd.strings_Join b o c ((x :: r).map fun l => (⟨l.toArray⟩ : ByteArray)) sep w (fun j y hy => by
      rw [List.getElem?_map] at hy
      obtain ⟨l, hl, rfl⟩ := Option.map_eq_some_iff.1 hy
      obtain ⟨hj, e⟩ := List.getElem?_eq_some_iff.1 hl
      have := hall j (by rw [tx_length]; exact hj)
      rw [this]
      simp only [tx, List.getElem_map, e]) hb (by simpa using (by omega : (x :: r).length ≤ 140737488355328)) (by simpa using hc) (by rw [e]; exact hl)
    rw [e, List.length_map] at this
    exact this

set_option maxHeartbeats 2000000 in
theorem get_any (L : List Pair) (p : Option Addr) (n c : Nat) (hn : L.length = n) (hr : n ≤ 4000000000000) (nm : ByteArray) (hnm : nm.size ≤ 140737488351232) (hsz : ∀ x ∈ L, x.1.length ≤ 140737488351232) (hW : joinW (valuesOf L nm.data.toList) ≤ 140000000000000) (w : World) (h : In2 w p L) :
    Calls Tryd.prog 10 #[.slice p n c, .string nm] w fun e w' => e = .returned (.tuple #[.string ⟨(joinT (valuesOf L nm.data.toList)).toArray⟩, .bool (decide (0 < (valuesOf L nm.data.toList).length))]) ∧ Below w.heap.size w w' := by
  have hjl := joinT_len (valuesOf L nm.data.toList)
  have hvl := values_length L nm.data.toList
  obtain ⟨V, hV⟩ : ∃ V, V = valuesOf L nm.data.toList := ⟨_, rfl⟩
  rw [← hV] at hW hvl hjl ⊢
  go_enter Tryd.func10, Tryd.ntmps10
  go_wp2_with fail
  refine (values_any L p n c hn hr nm hnm hsz w h).mono ?_
  rintro e w1 ⟨v1, rfl, hown1, hb1⟩
  have hs1 := hb1.size
  rw [← hV] at hown1
  clear hV
  obtain ⟨pv, cv, rfl, k1, k2, hinV, _⟩ := hown1.shape rfl
  unfold maxLen at k2
  go_wp2_with fail
  refine (join_any V pv _ cv rfl k1 (by omega) _ ?_ _ hinV).mono ?_
  · exact Nat.le_trans (show (joinT V).length ≤ joinW V from hjl) (by omega)
  rintro e w2 ⟨rfl, hb2⟩
  go_wp2
  go_ret2
  exact ⟨rfl, hb1.trans (hb2.mono hs1)⟩

set_option maxHeartbeats 2000000 in
theorem refGet_any (L : List Pair) (p : Option Addr) (n c : Nat) (hn : L.length = n) (hr : n ≤ 4000000000000) (nm : ByteArray) (hnm : nm.size ≤ 140737488351232) (hsz : ∀ x ∈ L, x.1.length ≤ 140737488351232) (hW : joinW (valuesOf L nm.data.toList) ≤ 140000000000000) (w : World) (h : In2 w p L) :
    Calls Tryd.prog 12 #[.slice p n c, .string nm] w fun e w' => e = .returned (.tuple #[.string ⟨(joinT (valuesOf L nm.data.toList)).toArray⟩, .bool (decide (0 < (valuesOf L nm.data.toList).length))]) ∧ Below w.heap.size w w' := by
  have hvl := values_length L nm.data.toList
  obtain ⟨V, hV⟩ : ∃ V, V = valuesOf L nm.data.toList := ⟨_, rfl⟩
  rw [← hV] at hW hvl ⊢
  go_enter Tryd.func12, Tryd.ntmps12
  go_wp2_with fail
  refine (refValues_any L p n c hn hr nm hnm hsz w h).mono ?_
  rintro e w1 ⟨v1, rfl, hown1, hb1⟩
  have hs1 := hb1.size
  rw [← hV] at hown1
  clear hV
  obtain ⟨pv, cv, rfl, k1, k2, hinV, _⟩ := hown1.shape rfl
  unfold maxLen at k2
  have HL := Lib.hid (fun k => Nat.le_trans (joinT_len (V.take k)) (joinW_take V k))
  have HM := Lib.hid (joinW_mem V)
  go_wp2_with fail
  go_loopw [7, 8] (fun v i wr => ∃ (k : Nat) (st : ByteArray), k ≤ V.length ∧ v = .string st ∧ i = .int .i64 k ∧ st.data.toList = joinT (V.take k) ∧ wr = w1) (fun _ i _ => V.length - (intOf i).toNat)
  case atStart => exact ⟨0, ⟨#[]⟩, by omega, rfl, rfl, rfl, rfl⟩
  case round =>
    obtain ⟨k, st, hk2, rfl, rfl, hst, rfl⟩ := hrel
    have hsz : st.size ≤ 140000000000000 := by have := HL.out k; rw [← size_list, hst]; omega
    have HST := Lib.hid hst
    clear hst
    by_cases hlt : k < V.length
    · obtain ⟨b, o, rfl, x, hck, hx⟩ := hinV.at hlt
      have hxs : x.size + 2 ≤ joinW V := by have := HM.out V[k] (List.getElem_mem hlt); rw [← size_list, hx]; omega
      have HX := Lib.hid hx
      clear hx
      by_cases h0 : 0 < k
      · have h0i : (0 : Int) < (k : Int) := by omega
        have hall : st.size + 2 + x.size ≤ joinW V := by
          have := HL.out (k + 1)
          rw [joinT_snoc V k hlt h0, ← HST.out, ← HX.out] at this
          simp only [List.length_append, size_list, List.length_cons, List.length_nil] at this
          omega
        go_wp2_with fail
        go_roundw
        case rel =>
          refine ⟨k + 1, _, by omega, rfl, by go_num, ?_, by trivial⟩
          rw [joinT_snoc V k hlt h0, ← HST.out, ← HX.out]
          simp
        case measure => simp [intOf]; omega
      · have h0i : ¬ (0 : Int) < (k : Int) := by omega
        have hk0 : k = 0 := by omega
        have hst0 : st.data.toList = [] := by
          have := HST.out
          rw [hk0, List.take_zero, joinT_nil] at this
          exact this
        have hall : st.size = 0 := by rw [← size_list, hst0]; rfl
        have HK := Lib.hid hk0
        have HE := Lib.hid hst0
        clear hk0 hst0
        go_wp2_with fail
        go_roundw
        case rel =>
          refine ⟨k + 1, _, by omega, rfl, by go_num, ?_, by trivial⟩
          have e := HX.out
          have e2 := HE.out
          have e3 := HK.out
          subst e3
          rw [joinT_first V hlt, ← e]
          simp [e2]
        case measure => simp [intOf]; omega
    · obtain rfl : k = V.length := by omega
      go_wp2_with fail
      go_ret2
      refine ⟨?_, hb1⟩
      have := HST.out
      rw [List.take_length] at this
      rw [← this, ba_self]
      first | rfl | (simp; done) | (congr 4; simp; done) | trace_state
end Go.Proofs.YtpgjlepjhbjhfaaDoor
