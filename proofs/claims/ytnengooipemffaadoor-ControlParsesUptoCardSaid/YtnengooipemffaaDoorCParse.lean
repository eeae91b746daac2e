/-
  Parse, the program's.
-/
import Derived.Test.YtnengooipemffaaDoorDirs
import Derived.Test.YtnengooipemffaaDoorTokens
import Derived.Lib.SlicesS
namespace Go.Proofs.YtnengooipemffaaDoor
open Go.RowKit

def nsW : List UInt8 := [110, 111, 45, 115, 116, 111, 114, 101]
def ncW : List UInt8 := [110, 111, 45, 99, 97, 99, 104, 101]
def prW : List UInt8 := [112, 114, 105, 118, 97, 116, 101]
def puW : List UInt8 := [112, 117, 98, 108, 105, 99]
def muW : List UInt8 := [109, 117, 115, 116, 45, 114, 101, 118, 97, 108, 105, 100, 97, 116, 101]
def pxW : List UInt8 := [112, 114, 111, 120, 121, 45, 114, 101, 118, 97, 108, 105, 100, 97, 116, 101]
def ocW : List UInt8 := [111, 110, 108, 121, 45, 105, 102, 45, 99, 97, 99, 104, 101, 100]
def maW : List UInt8 := [109, 97, 120, 45, 97, 103, 101]
def smW : List UInt8 := [115, 45, 109, 97, 120, 97, 103, 101]
def mfW : List UInt8 := [109, 105, 110, 45, 102, 114, 101, 115, 104]
def ccW : List UInt8 := [67, 97, 99, 104, 101, 45, 67, 111, 110, 116, 114, 111, 108]
def pgW : List UInt8 := [80, 114, 97, 103, 109, 97]
def hasK (D : List Ent) (k : List UInt8) : Bool := (lookM D k).isSome
/-- what Cache-Control tells: of its directives, and of the elder field -/
def ctlV (D : List Ent) (old : Bool) : Value := .agg #[.bool (hasK D nsW), .bool (hasK D ncW || old), .bool (hasK D prW), .bool (hasK D puW), .bool (hasK D muW || hasK D pxW), .bool (hasK D ocW), .int .i64 (numM D maW), .int .i64 (numM D smW), .int .i64 (numM D mfW), .int .i64 (patM D)]
theorem ctlV_same (T D : List Ent) (old : Bool) (h : ∀ k, lookM T k = lookM D k) : ctlV T old = ctlV D old := by
  unfold ctlV hasK numM patM
  simp only [h]
def oldT (L : List Pair) : Bool := (valuesOf L ccW).isEmpty && (tokensOf L pgW).contains ncW
def ctlT (L : List Pair) : Value := ctlV (dirsOf (valuesOf L ccW)) (oldT L)

theorem containsS_texts (Z : List (List UInt8)) (x : ByteArray) : Lib.containsS (Z.map fun l => (⟨l.toArray⟩ : ByteArray)) x = Z.contains x.data.toList := by
  rw [Bool.eq_iff_iff, Lib.containsS_iff, List.contains_iff_mem]
  constructor
  · intro h
    obtain ⟨l, hl, rfl⟩ := List.mem_map.1 h
    exact hl
  · intro h
    exact List.mem_map.2 ⟨_, h, by simp⟩
/-- is the word among the texts? -/
theorem containsT_any (Z : List (List UInt8)) (p : Option Addr) (n c : Nat) (hn : Z.length = n) (hr : n ≤ 8000000000000) (x : ByteArray) (w : World) (h : InS w p Z) :
    Calls Tryd.prog 21 #[.slice p n c, .string x] w fun e w' => e = .returned (.bool (Z.contains x.data.toList)) ∧ w = w' := by
  subst hn
  by_cases h0 : 0 < Z.length
  · obtain ⟨b, o, rfl, hc⟩ := h (by rwa [tx_length])
    have hl : (Z.map fun l => (⟨l.toArray⟩ : ByteArray)).length = Z.length := by simp
    have := Tryd.slices_Contains_string b o Z.length c (Z.map fun l => (⟨l.toArray⟩ : ByteArray)) x w (by rw [hl]; exact Nat.le_refl _) (by omega) (fun j hj => by
      rw [hl] at hj
      rw [hc j (by rwa [tx_length])]
      simp [tx, List.getD_eq_getElem?_getD, hj])
    refine this.mono ?_
    rintro e w' ⟨rfl, rfl⟩
    rw [← hl, List.take_length, containsS_texts]
    exact ⟨rfl, rfl⟩
  · obtain rfl : Z = [] := List.length_eq_zero_iff.1 (by omega)
    refine (Tryd.slices_Contains_string_empty p c x w).mono ?_
    rintro e w' ⟨rfl, rfl⟩
    exact ⟨rfl, rfl⟩

theorem hasW_any (T : List Ent) (b : Nat) (hT : bigOK T) (k : ByteArray) (hk : k.size ≤ 1000) (w : World) (hM : OwnM w b T) :
    Calls Tryd.prog 23 #[.map (some b), .slice (some ⟨w.heap.size, 0, none⟩) 1 1] (w.alloc (.cells #[.string k] 9)) fun e w' => e = .returned (.bool (hasK T k.data.toList)) ∧ Below w.heap.size w w' := by
  have hb := (Below.refl w.heap.size w).alloc (Nat.le_refl _) (.cells #[.string k] 9)
  have h := has_any T b hT [k.data.toList] _ 1 1 rfl (by omega) (w.alloc (.cells #[.string k] 9)) (by intro y hy; rw [List.mem_singleton.1 hy, size_list]; omega) (hM.below hb) (InS.one w k)
  refine h.mono ?_
  rintro e w' ⟨rfl, hb2⟩
  exact ⟨ret_bool (by simp [hasM, hasK]), hb.trans (hb2.mono (by simp))⟩
theorem InS.two (w : World) (s t : ByteArray) : InS (w.alloc (.cells #[.string s, .string t] 9)) (some ⟨w.heap.size, 0, none⟩) [s.data.toList, t.data.toList] := by
  intro _
  refine ⟨w.heap.size, 0, rfl, fun i hi => ?_⟩
  rw [tx_length] at hi
  rw [cell_of_row _ _ _ _ _ _ (heap_alloc_new w _), Nat.zero_add]
  match i, hi with
  | 0, _ => rfl
  | 1, _ => rfl
theorem hasW2_any (T : List Ent) (b : Nat) (hT : bigOK T) (k l : ByteArray) (hk : k.size ≤ 1000) (hl : l.size ≤ 1000) (w : World) (hM : OwnM w b T) :
    Calls Tryd.prog 23 #[.map (some b), .slice (some ⟨w.heap.size, 0, none⟩) 2 2] (w.alloc (.cells #[.string k, .string l] 9)) fun e w' => e = .returned (.bool (hasK T k.data.toList || hasK T l.data.toList)) ∧ Below w.heap.size w w' := by
  have hb := (Below.refl w.heap.size w).alloc (Nat.le_refl _) (.cells #[.string k, .string l] 9)
  have h := has_any T b hT [k.data.toList, l.data.toList] _ 2 2 rfl (by omega) (w.alloc (.cells #[.string k, .string l] 9)) (by
    intro y hy
    simp only [List.mem_cons, List.not_mem_nil, or_false] at hy
    rcases hy with rfl | rfl
    · rw [size_list]; omega
    · rw [size_list]; omega) (hM.below hb) (InS.two w k l)
  refine h.mono ?_
  rintro e w' ⟨rfl, hb2⟩
  exact ⟨ret_bool (by simp [hasM, hasK]), hb.trans (hb2.mono (by simp))⟩

abbrev zeroC : Obj := (.cells #[.bool false, .bool false, .bool false, .bool false, .bool false, .bool false, .int .i64 0, .int .i64 0, .int .i64 0, .int .i64 0] 28)
set_option maxHeartbeats 8000000 in
set_option maxRecDepth 100000 in
theorem cparse_any (L : List Pair) (p : Option Addr) (n c : Nat) (hn : L.length = n) (hr : n ≤ 4000000) (w : World) (h : In2 w p L) (hL : ∀ x ∈ L, x.1.length ≤ 4000000 ∧ x.2.length ≤ 4000000) (hTL : (tokensOf L pgW).length ≤ 8000000000000) (hMC : MaxC w) :
    Calls Tryd.prog 13 #[.slice p n c] w fun e w' => e = .returned (ctlT L) ∧ Below w.heap.size w w' := by
  have HL1 := Lib.hid (show ∀ x ∈ L, x.1.length ≤ 140737488351232 from fun x hx => by have := (hL x hx).1; omega)
  have HL2 := Lib.hid (show ∀ x ∈ L, x.1.length ≤ 140737488351232 ∧ x.2.length ≤ 4000000000 from fun x hx => by have := hL x hx; exact ⟨by omega, by omega⟩)
  have hvl := values_length L ccW
  have HVM := Lib.hid (show ∀ v ∈ valuesOf L ccW, v.length ≤ 4000000 by
    intro v hv
    obtain ⟨x, hx, rfl⟩ := values_mem L _ v hv
    exact (hL x hx).2)
  have hb0 := (Below.refl w.heap.size w).alloc (Nat.le_refl _) zeroC
  have hg0 := heap_alloc_new w zeroC
  have hs0 : (w.alloc zeroC).heap.size = w.heap.size + 1 := by simp
  have hv := values_any L p n c hn (by omega) ⟨#[67, 97, 99, 104, 101, 45, 67, 111, 110, 116, 114, 111, 108]⟩ (by decide) HL1.out (w.alloc zeroC) (h.alloc _)
  rw [show (⟨#[67, 97, 99, 104, 101, 45, 67, 111, 110, 116, 114, 111, 108]⟩ : ByteArray).data.toList = ccW from rfl, hs0] at hv
  obtain ⟨V, hV⟩ : ∃ V, V = valuesOf L ccW := ⟨_, rfl⟩
  obtain ⟨Z, hZ⟩ : ∃ Z, Z = tokensOf L pgW := ⟨_, rfl⟩
  rw [← hV] at hv hvl
  rw [← hZ] at hTL
  have HV := Lib.hid hV
  have HZ := Lib.hid hZ
  clear hL hV hZ
  go_enter Tryd.func13, Tryd.ntmps13
  go_wp2_with fail
  refine hv.mono ?_
  rintro e w1 ⟨v1, rfl, hown1, hb1⟩
  have hB1 := hb0.trans (hb1.mono (by omega))
  have hs1 := hb1.size
  rw [hs0] at hs1
  have hg1 := (hb1.block w.heap.size (by omega)).trans hg0
  obtain ⟨pv, cv, rfl, _, _, hinV, _⟩ := hown1.shape rfl
  clear hv hown1 hb1 hg0 hb0 hs0
  go_wp2_with fail
  refine (read_any V pv _ cv rfl (by omega) w1 hinV (by rw [show V = valuesOf L ccW from HV.out]; exact HVM.out) (hMC.below hB1)).mono ?_
  rintro e w2 ⟨b, T, rfl, hM2, hT, hTD, hb2⟩
  have HT := Lib.hid hT
  have HTD := Lib.hid hTD
  have hB2 := hB1.trans (hb2.mono (by omega))
  have hs2 := hb2.size
  have hg2 := (hb2.block w.heap.size (by omega)).trans hg1
  clear hT hTD hinV hb2 hg1
  obtain ⟨old, hold⟩ : ∃ o, o = oldT L := ⟨_, rfl⟩
  have HOLD := Lib.hid hold
  clear hold
  have key : ∀ w3, OwnM w3 b T → Below w.heap.size w w3 → w3.heap[w.heap.size]? = some zeroC → w.heap.size + 1 ≤ w3.heap.size → True := fun _ _ _ _ _ => trivial
  clear key

  have HRUN := Lib.hid (fun W : World => (rfl : W = W))
  by_cases hv0 : V.length = 0
  · have hvi : ((V.length : Int) == 0) = true := by rw [hv0]; rfl
    have hve : (valuesOf L ccW).isEmpty = true := by rw [← show V = valuesOf L ccW from HV.out]; exact List.isEmpty_iff.2 (List.length_eq_zero_iff.1 hv0)
    have ho : old = Z.contains ncW := by rw [HOLD.out]; unfold oldT; rw [hve, Bool.true_and, ← show Z = tokensOf L pgW from HZ.out]
    have htk := tokens_any L p n c hn (by omega) ⟨#[80, 114, 97, 103, 109, 97]⟩ (by decide) HL2.out (by rw [show (⟨#[80, 114, 97, 103, 109, 97]⟩ : ByteArray).data.toList = pgW from rfl, ← show Z = tokensOf L pgW from HZ.out]; exact hTL) w2 (h.below hB2)
    rw [show (⟨#[80, 114, 97, 103, 109, 97]⟩ : ByteArray).data.toList = pgW from rfl, ← show Z = tokensOf L pgW from HZ.out] at htk
    clear hve
    go_wp2_with fail
    refine htk.mono ?_
    rintro e w3 ⟨v3, rfl, hown3, hb3⟩
    have hM3 := hM2.below hb3
    have hB3 := hB2.trans (hb3.mono (by omega))
    have hg3 := (hb3.block w.heap.size (by omega)).trans hg2
    have hs3 := hb3.size
    obtain ⟨pz, cz, rfl, _, _, hinZ, _⟩ := hown3.shape rfl
    clear htk hown3 hM2 hB2 hg2
    go_wp2_with fail
    refine (containsT_any Z pz _ cz rfl (by omega) ⟨#[110, 111, 45, 99, 97, 99, 104, 101]⟩ w3 hinZ).mono ?_
    rw [show (⟨#[110, 111, 45, 99, 97, 99, 104, 101]⟩ : ByteArray).data.toList = ncW from rfl, ← ho]
    rintro e w4 ⟨rfl, rfl⟩
    clear ho hinZ

    go_wp2_with fail
    refine (hasW_any T b HT.out ⟨#[110, 111, 45, 115, 116, 111, 114, 101]⟩ (by decide) w3 hM3).mono ?_
    rw [show hasK T (⟨#[110, 111, 45, 115, 116, 111, 114, 101]⟩ : ByteArray).data.toList = hasK T nsW from rfl]
    rintro e w4 ⟨rfl, hb4⟩
    have hM4 := hM3.below hb4
    have hB4 := hB3.trans (hb4.mono (by omega))
    have hg4 := (hb4.block w.heap.size (by omega)).trans hg3
    have hs4 := hb4.size
    clear hM3 hB3 hg3
    go_wp2_with fail
    refine (hasW_any T b HT.out ⟨#[110, 111, 45, 99, 97, 99, 104, 101]⟩ (by decide) w4 hM4).mono ?_
    rw [show hasK T (⟨#[110, 111, 45, 99, 97, 99, 104, 101]⟩ : ByteArray).data.toList = hasK T ncW from rfl]
    rintro e w5 ⟨rfl, hb5⟩
    have hM5 := hM4.below hb5
    have hB5 := hB4.trans (hb5.mono (by omega))
    have hg5 := (hb5.block w.heap.size (by omega)).trans hg4
    have hs5 := hb5.size
    clear hM4 hB4 hg4
    have hpick : (if hasK T ncW = true then true else old) = (hasK T ncW || old) := by cases hasK T ncW <;> rfl
    cases hnc : hasK T ncW
    · go_wp2_with fail
      refine (hasW_any T b HT.out ⟨#[112, 114, 105, 118, 97, 116, 101]⟩ (by decide) w5 hM5).mono ?_
      rw [show hasK T (⟨#[112, 114, 105, 118, 97, 116, 101]⟩ : ByteArray).data.toList = hasK T prW from rfl]
      rintro e w6 ⟨rfl, hb6⟩
      have hM6 := hM5.below hb6
      have hB6 := hB5.trans (hb6.mono (by omega))
      have hg6 := (hb6.block w.heap.size (by omega)).trans hg5
      have hs6 := hb6.size
      clear hM5 hB5 hg5
      go_wp2_with fail
      refine (hasW_any T b HT.out ⟨#[112, 117, 98, 108, 105, 99]⟩ (by decide) w6 hM6).mono ?_
      rw [show hasK T (⟨#[112, 117, 98, 108, 105, 99]⟩ : ByteArray).data.toList = hasK T puW from rfl]
      rintro e w7 ⟨rfl, hb7⟩
      have hM7 := hM6.below hb7
      have hB7 := hB6.trans (hb7.mono (by omega))
      have hg7 := (hb7.block w.heap.size (by omega)).trans hg6
      have hs7 := hb7.size
      clear hM6 hB6 hg6
      go_wp2_with fail
      refine (hasW2_any T b HT.out ⟨#[109, 117, 115, 116, 45, 114, 101, 118, 97, 108, 105, 100, 97, 116, 101]⟩ ⟨#[112, 114, 111, 120, 121, 45, 114, 101, 118, 97, 108, 105, 100, 97, 116, 101]⟩ (by decide) (by decide) w7 hM7).mono ?_
      rw [show hasK T (⟨#[109, 117, 115, 116, 45, 114, 101, 118, 97, 108, 105, 100, 97, 116, 101]⟩ : ByteArray).data.toList = hasK T muW from rfl, show hasK T (⟨#[112, 114, 111, 120, 121, 45, 114, 101, 118, 97, 108, 105, 100, 97, 116, 101]⟩ : ByteArray).data.toList = hasK T pxW from rfl]
      rintro e w8 ⟨rfl, hb8⟩
      have hM8 := hM7.below hb8
      have hB8 := hB7.trans (hb8.mono (by omega))
      have hg8 := (hb8.block w.heap.size (by omega)).trans hg7
      have hs8 := hb8.size
      clear hM7 hB7 hg7
      go_wp2_with fail
      refine (hasW_any T b HT.out ⟨#[111, 110, 108, 121, 45, 105, 102, 45, 99, 97, 99, 104, 101, 100]⟩ (by decide) w8 hM8).mono ?_
      rw [show hasK T (⟨#[111, 110, 108, 121, 45, 105, 102, 45, 99, 97, 99, 104, 101, 100]⟩ : ByteArray).data.toList = hasK T ocW from rfl]
      rintro e w9 ⟨rfl, hb9⟩
      have hM9 := hM8.below hb9
      have hB9 := hB8.trans (hb9.mono (by omega))
      have hg9 := (hb9.block w.heap.size (by omega)).trans hg8
      have hs9 := hb9.size
      clear hM8 hB8 hg8
      go_wp2_with fail
      refine (number_any T b HT.out ⟨#[109, 97, 120, 45, 97, 103, 101]⟩ (by decide) w9 hM9).mono ?_
      rw [show numM T (⟨#[109, 97, 120, 45, 97, 103, 101]⟩ : ByteArray).data.toList = numM T maW from rfl]
      rintro e w10 ⟨rfl, hb10⟩
      have hM10 := hM9.below hb10
      have hB10 := hB9.trans (hb10.mono (by omega))
      have hg10 := (hb10.block w.heap.size (by omega)).trans hg9
      have hs10 := hb10.size
      clear hM9 hB9 hg9
      go_wp2_with fail
      refine (number_any T b HT.out ⟨#[115, 45, 109, 97, 120, 97, 103, 101]⟩ (by decide) w10 hM10).mono ?_
      rw [show numM T (⟨#[115, 45, 109, 97, 120, 97, 103, 101]⟩ : ByteArray).data.toList = numM T smW from rfl]
      rintro e w11 ⟨rfl, hb11⟩
      have hM11 := hM10.below hb11
      have hB11 := hB10.trans (hb11.mono (by omega))
      have hg11 := (hb11.block w.heap.size (by omega)).trans hg10
      have hs11 := hb11.size
      clear hM10 hB10 hg10
      go_wp2_with fail
      refine (number_any T b HT.out ⟨#[109, 105, 110, 45, 102, 114, 101, 115, 104]⟩ (by decide) w11 hM11).mono ?_
      rw [show numM T (⟨#[109, 105, 110, 45, 102, 114, 101, 115, 104]⟩ : ByteArray).data.toList = numM T mfW from rfl]
      rintro e w12 ⟨rfl, hb12⟩
      have hM12 := hM11.below hb12
      have hB12 := hB11.trans (hb12.mono (by omega))
      have hg12 := (hb12.block w.heap.size (by omega)).trans hg11
      have hs12 := hb12.size
      clear hM11 hB11 hg11
      go_wp2_with fail
      refine (patience_any T b HT.out w12 hM12).mono ?_
      rintro e w13 ⟨rfl, hb13⟩
      have hM13 := hM12.below hb13
      have hB13 := hB12.trans (hb13.mono (by omega))
      have hg13 := (hb13.block w.heap.size (by omega)).trans hg12
      have hs13 := hb13.size
      clear hM12 hB12 hg12
      have hrun := HRUN.out w13
      have hfz : ∀ j, w13.frozen? ⟨w.heap.size, j, none⟩ = false := fun j => frozen_of_row _ _ _ _ _ hg13
      have z0 : w13.cell? ⟨w.heap.size, 0, none⟩ = some (.bool false) := by rw [cell_of_row _ _ _ _ _ _ hg13]; rfl
      have z1 : w13.cell? ⟨w.heap.size, 1, none⟩ = some (.bool false) := by rw [cell_of_row _ _ _ _ _ _ hg13]; rfl
      have z2 : w13.cell? ⟨w.heap.size, 2, none⟩ = some (.bool false) := by rw [cell_of_row _ _ _ _ _ _ hg13]; rfl
      have z3 : w13.cell? ⟨w.heap.size, 3, none⟩ = some (.bool false) := by rw [cell_of_row _ _ _ _ _ _ hg13]; rfl
      have z4 : w13.cell? ⟨w.heap.size, 4, none⟩ = some (.bool false) := by rw [cell_of_row _ _ _ _ _ _ hg13]; rfl
      have z5 : w13.cell? ⟨w.heap.size, 5, none⟩ = some (.bool false) := by rw [cell_of_row _ _ _ _ _ _ hg13]; rfl
      have z6 : w13.cell? ⟨w.heap.size, 6, none⟩ = some (.int .i64 0) := by rw [cell_of_row _ _ _ _ _ _ hg13]; rfl
      have z7 : w13.cell? ⟨w.heap.size, 7, none⟩ = some (.int .i64 0) := by rw [cell_of_row _ _ _ _ _ _ hg13]; rfl
      have z8 : w13.cell? ⟨w.heap.size, 8, none⟩ = some (.int .i64 0) := by rw [cell_of_row _ _ _ _ _ _ hg13]; rfl
      have z9 : w13.cell? ⟨w.heap.size, 9, none⟩ = some (.int .i64 0) := by rw [cell_of_row _ _ _ _ _ _ hg13]; rfl
      clear hM13 hrun
      have HNC := Lib.hid (show (hasK T ncW || old) = old by rw [hnc]; exact Bool.false_or _)
      go_wp2_with fail
      refine bodyPost_ret (v := ctlV T old) (by unfold ctlV; rw [HNC.out]; simp [results, Tryd.results13, go_sem, z0, z1, z2, z3, z4, z5, z6, z7, z8, z9]) rfl ⟨?_, ?_⟩
      · rw [ctlV_same T _ (old) HTD.out]
        unfold ctlT
        rw [← show V = valuesOf L ccW from HV.out, ← show (old) = oldT L from HOLD.out]
      · exact ((((((((((hB13.setCell (p := ⟨w.heap.size, 0, none⟩) (Nat.le_refl _) _).setCell (p := ⟨w.heap.size, 1, none⟩) (Nat.le_refl _) _).setCell (p := ⟨w.heap.size, 2, none⟩) (Nat.le_refl _) _).setCell (p := ⟨w.heap.size, 3, none⟩) (Nat.le_refl _) _).setCell (p := ⟨w.heap.size, 4, none⟩) (Nat.le_refl _) _).setCell (p := ⟨w.heap.size, 5, none⟩) (Nat.le_refl _) _).setCell (p := ⟨w.heap.size, 6, none⟩) (Nat.le_refl _) _).setCell (p := ⟨w.heap.size, 7, none⟩) (Nat.le_refl _) _).setCell (p := ⟨w.heap.size, 8, none⟩) (Nat.le_refl _) _).setCell (p := ⟨w.heap.size, 9, none⟩) (Nat.le_refl _) _)
    · go_wp2_with fail
      refine (hasW_any T b HT.out ⟨#[112, 114, 105, 118, 97, 116, 101]⟩ (by decide) w5 hM5).mono ?_
      rw [show hasK T (⟨#[112, 114, 105, 118, 97, 116, 101]⟩ : ByteArray).data.toList = hasK T prW from rfl]
      rintro e w6 ⟨rfl, hb6⟩
      have hM6 := hM5.below hb6
      have hB6 := hB5.trans (hb6.mono (by omega))
      have hg6 := (hb6.block w.heap.size (by omega)).trans hg5
      have hs6 := hb6.size
      clear hM5 hB5 hg5
      go_wp2_with fail
      refine (hasW_any T b HT.out ⟨#[112, 117, 98, 108, 105, 99]⟩ (by decide) w6 hM6).mono ?_
      rw [show hasK T (⟨#[112, 117, 98, 108, 105, 99]⟩ : ByteArray).data.toList = hasK T puW from rfl]
      rintro e w7 ⟨rfl, hb7⟩
      have hM7 := hM6.below hb7
      have hB7 := hB6.trans (hb7.mono (by omega))
      have hg7 := (hb7.block w.heap.size (by omega)).trans hg6
      have hs7 := hb7.size
      clear hM6 hB6 hg6
      go_wp2_with fail
      refine (hasW2_any T b HT.out ⟨#[109, 117, 115, 116, 45, 114, 101, 118, 97, 108, 105, 100, 97, 116, 101]⟩ ⟨#[112, 114, 111, 120, 121, 45, 114, 101, 118, 97, 108, 105, 100, 97, 116, 101]⟩ (by decide) (by decide) w7 hM7).mono ?_
      rw [show hasK T (⟨#[109, 117, 115, 116, 45, 114, 101, 118, 97, 108, 105, 100, 97, 116, 101]⟩ : ByteArray).data.toList = hasK T muW from rfl, show hasK T (⟨#[112, 114, 111, 120, 121, 45, 114, 101, 118, 97, 108, 105, 100, 97, 116, 101]⟩ : ByteArray).data.toList = hasK T pxW from rfl]
      rintro e w8 ⟨rfl, hb8⟩
      have hM8 := hM7.below hb8
      have hB8 := hB7.trans (hb8.mono (by omega))
      have hg8 := (hb8.block w.heap.size (by omega)).trans hg7
      have hs8 := hb8.size
      clear hM7 hB7 hg7
      go_wp2_with fail
      refine (hasW_any T b HT.out ⟨#[111, 110, 108, 121, 45, 105, 102, 45, 99, 97, 99, 104, 101, 100]⟩ (by decide) w8 hM8).mono ?_
      rw [show hasK T (⟨#[111, 110, 108, 121, 45, 105, 102, 45, 99, 97, 99, 104, 101, 100]⟩ : ByteArray).data.toList = hasK T ocW from rfl]
      rintro e w9 ⟨rfl, hb9⟩
      have hM9 := hM8.below hb9
      have hB9 := hB8.trans (hb9.mono (by omega))
      have hg9 := (hb9.block w.heap.size (by omega)).trans hg8
      have hs9 := hb9.size
      clear hM8 hB8 hg8
      go_wp2_with fail
      refine (number_any T b HT.out ⟨#[109, 97, 120, 45, 97, 103, 101]⟩ (by decide) w9 hM9).mono ?_
      rw [show numM T (⟨#[109, 97, 120, 45, 97, 103, 101]⟩ : ByteArray).data.toList = numM T maW from rfl]
      rintro e w10 ⟨rfl, hb10⟩
      have hM10 := hM9.below hb10
      have hB10 := hB9.trans (hb10.mono (by omega))
      have hg10 := (hb10.block w.heap.size (by omega)).trans hg9
      have hs10 := hb10.size
      clear hM9 hB9 hg9
      go_wp2_with fail
      refine (number_any T b HT.out ⟨#[115, 45, 109, 97, 120, 97, 103, 101]⟩ (by decide) w10 hM10).mono ?_
      rw [show numM T (⟨#[115, 45, 109, 97, 120, 97, 103, 101]⟩ : ByteArray).data.toList = numM T smW from rfl]
      rintro e w11 ⟨rfl, hb11⟩
      have hM11 := hM10.below hb11
      have hB11 := hB10.trans (hb11.mono (by omega))
      have hg11 := (hb11.block w.heap.size (by omega)).trans hg10
      have hs11 := hb11.size
      clear hM10 hB10 hg10
      go_wp2_with fail
      refine (number_any T b HT.out ⟨#[109, 105, 110, 45, 102, 114, 101, 115, 104]⟩ (by decide) w11 hM11).mono ?_
      rw [show numM T (⟨#[109, 105, 110, 45, 102, 114, 101, 115, 104]⟩ : ByteArray).data.toList = numM T mfW from rfl]
      rintro e w12 ⟨rfl, hb12⟩
      have hM12 := hM11.below hb12
      have hB12 := hB11.trans (hb12.mono (by omega))
      have hg12 := (hb12.block w.heap.size (by omega)).trans hg11
      have hs12 := hb12.size
      clear hM11 hB11 hg11
      go_wp2_with fail
      refine (patience_any T b HT.out w12 hM12).mono ?_
      rintro e w13 ⟨rfl, hb13⟩
      have hM13 := hM12.below hb13
      have hB13 := hB12.trans (hb13.mono (by omega))
      have hg13 := (hb13.block w.heap.size (by omega)).trans hg12
      have hs13 := hb13.size
      clear hM12 hB12 hg12
      have hrun := HRUN.out w13
      have hfz : ∀ j, w13.frozen? ⟨w.heap.size, j, none⟩ = false := fun j => frozen_of_row _ _ _ _ _ hg13
      have z0 : w13.cell? ⟨w.heap.size, 0, none⟩ = some (.bool false) := by rw [cell_of_row _ _ _ _ _ _ hg13]; rfl
      have z1 : w13.cell? ⟨w.heap.size, 1, none⟩ = some (.bool false) := by rw [cell_of_row _ _ _ _ _ _ hg13]; rfl
      have z2 : w13.cell? ⟨w.heap.size, 2, none⟩ = some (.bool false) := by rw [cell_of_row _ _ _ _ _ _ hg13]; rfl
      have z3 : w13.cell? ⟨w.heap.size, 3, none⟩ = some (.bool false) := by rw [cell_of_row _ _ _ _ _ _ hg13]; rfl
      have z4 : w13.cell? ⟨w.heap.size, 4, none⟩ = some (.bool false) := by rw [cell_of_row _ _ _ _ _ _ hg13]; rfl
      have z5 : w13.cell? ⟨w.heap.size, 5, none⟩ = some (.bool false) := by rw [cell_of_row _ _ _ _ _ _ hg13]; rfl
      have z6 : w13.cell? ⟨w.heap.size, 6, none⟩ = some (.int .i64 0) := by rw [cell_of_row _ _ _ _ _ _ hg13]; rfl
      have z7 : w13.cell? ⟨w.heap.size, 7, none⟩ = some (.int .i64 0) := by rw [cell_of_row _ _ _ _ _ _ hg13]; rfl
      have z8 : w13.cell? ⟨w.heap.size, 8, none⟩ = some (.int .i64 0) := by rw [cell_of_row _ _ _ _ _ _ hg13]; rfl
      have z9 : w13.cell? ⟨w.heap.size, 9, none⟩ = some (.int .i64 0) := by rw [cell_of_row _ _ _ _ _ _ hg13]; rfl
      clear hM13 hrun
      have HNC := Lib.hid (show (hasK T ncW || old) = true by rw [hnc]; rfl)
      go_wp2_with fail
      refine bodyPost_ret (v := ctlV T old) (by unfold ctlV; rw [HNC.out]; simp [results, Tryd.results13, go_sem, z0, z1, z2, z3, z4, z5, z6, z7, z8, z9]) rfl ⟨?_, ?_⟩
      · rw [ctlV_same T _ (old) HTD.out]
        unfold ctlT
        rw [← show V = valuesOf L ccW from HV.out, ← show (old) = oldT L from HOLD.out]
      · exact ((((((((((hB13.setCell (p := ⟨w.heap.size, 0, none⟩) (Nat.le_refl _) _).setCell (p := ⟨w.heap.size, 1, none⟩) (Nat.le_refl _) _).setCell (p := ⟨w.heap.size, 2, none⟩) (Nat.le_refl _) _).setCell (p := ⟨w.heap.size, 3, none⟩) (Nat.le_refl _) _).setCell (p := ⟨w.heap.size, 4, none⟩) (Nat.le_refl _) _).setCell (p := ⟨w.heap.size, 5, none⟩) (Nat.le_refl _) _).setCell (p := ⟨w.heap.size, 6, none⟩) (Nat.le_refl _) _).setCell (p := ⟨w.heap.size, 7, none⟩) (Nat.le_refl _) _).setCell (p := ⟨w.heap.size, 8, none⟩) (Nat.le_refl _) _).setCell (p := ⟨w.heap.size, 9, none⟩) (Nat.le_refl _) _)
  · have hvi : ((V.length : Int) == 0) = false := by simpa using hv0
    have ho : old = false := by
      rw [HOLD.out]; unfold oldT
      rw [← show V = valuesOf L ccW from HV.out]
      cases V with
      | nil => exact absurd rfl hv0
      | cons x r => rfl
    subst ho

    go_wp2_with fail
    refine (hasW_any T b HT.out ⟨#[110, 111, 45, 115, 116, 111, 114, 101]⟩ (by decide) w2 hM2).mono ?_
    rw [show hasK T (⟨#[110, 111, 45, 115, 116, 111, 114, 101]⟩ : ByteArray).data.toList = hasK T nsW from rfl]
    rintro e w3 ⟨rfl, hb3⟩
    have hM3 := hM2.below hb3
    have hB3 := hB2.trans (hb3.mono (by omega))
    have hg3 := (hb3.block w.heap.size (by omega)).trans hg2
    have hs3 := hb3.size
    clear hM2 hB2 hg2
    go_wp2_with fail
    refine (hasW_any T b HT.out ⟨#[110, 111, 45, 99, 97, 99, 104, 101]⟩ (by decide) w3 hM3).mono ?_
    rw [show hasK T (⟨#[110, 111, 45, 99, 97, 99, 104, 101]⟩ : ByteArray).data.toList = hasK T ncW from rfl]
    rintro e w4 ⟨rfl, hb4⟩
    have hM4 := hM3.below hb4
    have hB4 := hB3.trans (hb4.mono (by omega))
    have hg4 := (hb4.block w.heap.size (by omega)).trans hg3
    have hs4 := hb4.size
    clear hM3 hB3 hg3
    have hpick : (if hasK T ncW = true then true else false) = (hasK T ncW || false) := by cases hasK T ncW <;> rfl
    cases hnc : hasK T ncW
    · go_wp2_with fail
      refine (hasW_any T b HT.out ⟨#[112, 114, 105, 118, 97, 116, 101]⟩ (by decide) w4 hM4).mono ?_
      rw [show hasK T (⟨#[112, 114, 105, 118, 97, 116, 101]⟩ : ByteArray).data.toList = hasK T prW from rfl]
      rintro e w5 ⟨rfl, hb5⟩
      have hM5 := hM4.below hb5
      have hB5 := hB4.trans (hb5.mono (by omega))
      have hg5 := (hb5.block w.heap.size (by omega)).trans hg4
      have hs5 := hb5.size
      clear hM4 hB4 hg4
      go_wp2_with fail
      refine (hasW_any T b HT.out ⟨#[112, 117, 98, 108, 105, 99]⟩ (by decide) w5 hM5).mono ?_
      rw [show hasK T (⟨#[112, 117, 98, 108, 105, 99]⟩ : ByteArray).data.toList = hasK T puW from rfl]
      rintro e w6 ⟨rfl, hb6⟩
      have hM6 := hM5.below hb6
      have hB6 := hB5.trans (hb6.mono (by omega))
      have hg6 := (hb6.block w.heap.size (by omega)).trans hg5
      have hs6 := hb6.size
      clear hM5 hB5 hg5
      go_wp2_with fail
      refine (hasW2_any T b HT.out ⟨#[109, 117, 115, 116, 45, 114, 101, 118, 97, 108, 105, 100, 97, 116, 101]⟩ ⟨#[112, 114, 111, 120, 121, 45, 114, 101, 118, 97, 108, 105, 100, 97, 116, 101]⟩ (by decide) (by decide) w6 hM6).mono ?_
      rw [show hasK T (⟨#[109, 117, 115, 116, 45, 114, 101, 118, 97, 108, 105, 100, 97, 116, 101]⟩ : ByteArray).data.toList = hasK T muW from rfl, show hasK T (⟨#[112, 114, 111, 120, 121, 45, 114, 101, 118, 97, 108, 105, 100, 97, 116, 101]⟩ : ByteArray).data.toList = hasK T pxW from rfl]
      rintro e w7 ⟨rfl, hb7⟩
      have hM7 := hM6.below hb7
      have hB7 := hB6.trans (hb7.mono (by omega))
      have hg7 := (hb7.block w.heap.size (by omega)).trans hg6
      have hs7 := hb7.size
      clear hM6 hB6 hg6
      go_wp2_with fail
      refine (hasW_any T b HT.out ⟨#[111, 110, 108, 121, 45, 105, 102, 45, 99, 97, 99, 104, 101, 100]⟩ (by decide) w7 hM7).mono ?_
      rw [show hasK T (⟨#[111, 110, 108, 121, 45, 105, 102, 45, 99, 97, 99, 104, 101, 100]⟩ : ByteArray).data.toList = hasK T ocW from rfl]
      rintro e w8 ⟨rfl, hb8⟩
      have hM8 := hM7.below hb8
      have hB8 := hB7.trans (hb8.mono (by omega))
      have hg8 := (hb8.block w.heap.size (by omega)).trans hg7
      have hs8 := hb8.size
      clear hM7 hB7 hg7
      go_wp2_with fail
      refine (number_any T b HT.out ⟨#[109, 97, 120, 45, 97, 103, 101]⟩ (by decide) w8 hM8).mono ?_
      rw [show numM T (⟨#[109, 97, 120, 45, 97, 103, 101]⟩ : ByteArray).data.toList = numM T maW from rfl]
      rintro e w9 ⟨rfl, hb9⟩
      have hM9 := hM8.below hb9
      have hB9 := hB8.trans (hb9.mono (by omega))
      have hg9 := (hb9.block w.heap.size (by omega)).trans hg8
      have hs9 := hb9.size
      clear hM8 hB8 hg8
      go_wp2_with fail
      refine (number_any T b HT.out ⟨#[115, 45, 109, 97, 120, 97, 103, 101]⟩ (by decide) w9 hM9).mono ?_
      rw [show numM T (⟨#[115, 45, 109, 97, 120, 97, 103, 101]⟩ : ByteArray).data.toList = numM T smW from rfl]
      rintro e w10 ⟨rfl, hb10⟩
      have hM10 := hM9.below hb10
      have hB10 := hB9.trans (hb10.mono (by omega))
      have hg10 := (hb10.block w.heap.size (by omega)).trans hg9
      have hs10 := hb10.size
      clear hM9 hB9 hg9
      go_wp2_with fail
      refine (number_any T b HT.out ⟨#[109, 105, 110, 45, 102, 114, 101, 115, 104]⟩ (by decide) w10 hM10).mono ?_
      rw [show numM T (⟨#[109, 105, 110, 45, 102, 114, 101, 115, 104]⟩ : ByteArray).data.toList = numM T mfW from rfl]
      rintro e w11 ⟨rfl, hb11⟩
      have hM11 := hM10.below hb11
      have hB11 := hB10.trans (hb11.mono (by omega))
      have hg11 := (hb11.block w.heap.size (by omega)).trans hg10
      have hs11 := hb11.size
      clear hM10 hB10 hg10
      go_wp2_with fail
      refine (patience_any T b HT.out w11 hM11).mono ?_
      rintro e w12 ⟨rfl, hb12⟩
      have hM12 := hM11.below hb12
      have hB12 := hB11.trans (hb12.mono (by omega))
      have hg12 := (hb12.block w.heap.size (by omega)).trans hg11
      have hs12 := hb12.size
      clear hM11 hB11 hg11
      have hrun := HRUN.out w12
      have hfz : ∀ j, w12.frozen? ⟨w.heap.size, j, none⟩ = false := fun j => frozen_of_row _ _ _ _ _ hg12
      have z0 : w12.cell? ⟨w.heap.size, 0, none⟩ = some (.bool false) := by rw [cell_of_row _ _ _ _ _ _ hg12]; rfl
      have z1 : w12.cell? ⟨w.heap.size, 1, none⟩ = some (.bool false) := by rw [cell_of_row _ _ _ _ _ _ hg12]; rfl
      have z2 : w12.cell? ⟨w.heap.size, 2, none⟩ = some (.bool false) := by rw [cell_of_row _ _ _ _ _ _ hg12]; rfl
      have z3 : w12.cell? ⟨w.heap.size, 3, none⟩ = some (.bool false) := by rw [cell_of_row _ _ _ _ _ _ hg12]; rfl
      have z4 : w12.cell? ⟨w.heap.size, 4, none⟩ = some (.bool false) := by rw [cell_of_row _ _ _ _ _ _ hg12]; rfl
      have z5 : w12.cell? ⟨w.heap.size, 5, none⟩ = some (.bool false) := by rw [cell_of_row _ _ _ _ _ _ hg12]; rfl
      have z6 : w12.cell? ⟨w.heap.size, 6, none⟩ = some (.int .i64 0) := by rw [cell_of_row _ _ _ _ _ _ hg12]; rfl
      have z7 : w12.cell? ⟨w.heap.size, 7, none⟩ = some (.int .i64 0) := by rw [cell_of_row _ _ _ _ _ _ hg12]; rfl
      have z8 : w12.cell? ⟨w.heap.size, 8, none⟩ = some (.int .i64 0) := by rw [cell_of_row _ _ _ _ _ _ hg12]; rfl
      have z9 : w12.cell? ⟨w.heap.size, 9, none⟩ = some (.int .i64 0) := by rw [cell_of_row _ _ _ _ _ _ hg12]; rfl
      clear hM12 hrun
      have HNC := Lib.hid (show (hasK T ncW || false) = false by rw [hnc]; exact Bool.false_or _)
      go_wp2_with fail
      refine bodyPost_ret (v := ctlV T false) (by unfold ctlV; rw [HNC.out]; simp [results, Tryd.results13, go_sem, z0, z1, z2, z3, z4, z5, z6, z7, z8, z9]) rfl ⟨?_, ?_⟩
      · rw [ctlV_same T _ (false) HTD.out]
        unfold ctlT
        rw [← show V = valuesOf L ccW from HV.out, ← show (false) = oldT L from HOLD.out]
      · exact ((((((((((hB12.setCell (p := ⟨w.heap.size, 0, none⟩) (Nat.le_refl _) _).setCell (p := ⟨w.heap.size, 1, none⟩) (Nat.le_refl _) _).setCell (p := ⟨w.heap.size, 2, none⟩) (Nat.le_refl _) _).setCell (p := ⟨w.heap.size, 3, none⟩) (Nat.le_refl _) _).setCell (p := ⟨w.heap.size, 4, none⟩) (Nat.le_refl _) _).setCell (p := ⟨w.heap.size, 5, none⟩) (Nat.le_refl _) _).setCell (p := ⟨w.heap.size, 6, none⟩) (Nat.le_refl _) _).setCell (p := ⟨w.heap.size, 7, none⟩) (Nat.le_refl _) _).setCell (p := ⟨w.heap.size, 8, none⟩) (Nat.le_refl _) _).setCell (p := ⟨w.heap.size, 9, none⟩) (Nat.le_refl _) _)
    · go_wp2_with fail
      refine (hasW_any T b HT.out ⟨#[112, 114, 105, 118, 97, 116, 101]⟩ (by decide) w4 hM4).mono ?_
      rw [show hasK T (⟨#[112, 114, 105, 118, 97, 116, 101]⟩ : ByteArray).data.toList = hasK T prW from rfl]
      rintro e w5 ⟨rfl, hb5⟩
      have hM5 := hM4.below hb5
      have hB5 := hB4.trans (hb5.mono (by omega))
      have hg5 := (hb5.block w.heap.size (by omega)).trans hg4
      have hs5 := hb5.size
      clear hM4 hB4 hg4
      go_wp2_with fail
      refine (hasW_any T b HT.out ⟨#[112, 117, 98, 108, 105, 99]⟩ (by decide) w5 hM5).mono ?_
      rw [show hasK T (⟨#[112, 117, 98, 108, 105, 99]⟩ : ByteArray).data.toList = hasK T puW from rfl]
      rintro e w6 ⟨rfl, hb6⟩
      have hM6 := hM5.below hb6
      have hB6 := hB5.trans (hb6.mono (by omega))
      have hg6 := (hb6.block w.heap.size (by omega)).trans hg5
      have hs6 := hb6.size
      clear hM5 hB5 hg5
      go_wp2_with fail
      refine (hasW2_any T b HT.out ⟨#[109, 117, 115, 116, 45, 114, 101, 118, 97, 108, 105, 100, 97, 116, 101]⟩ ⟨#[112, 114, 111, 120, 121, 45, 114, 101, 118, 97, 108, 105, 100, 97, 116, 101]⟩ (by decide) (by decide) w6 hM6).mono ?_
      rw [show hasK T (⟨#[109, 117, 115, 116, 45, 114, 101, 118, 97, 108, 105, 100, 97, 116, 101]⟩ : ByteArray).data.toList = hasK T muW from rfl, show hasK T (⟨#[112, 114, 111, 120, 121, 45, 114, 101, 118, 97, 108, 105, 100, 97, 116, 101]⟩ : ByteArray).data.toList = hasK T pxW from rfl]
      rintro e w7 ⟨rfl, hb7⟩
      have hM7 := hM6.below hb7
      have hB7 := hB6.trans (hb7.mono (by omega))
      have hg7 := (hb7.block w.heap.size (by omega)).trans hg6
      have hs7 := hb7.size
      clear hM6 hB6 hg6
      go_wp2_with fail
      refine (hasW_any T b HT.out ⟨#[111, 110, 108, 121, 45, 105, 102, 45, 99, 97, 99, 104, 101, 100]⟩ (by decide) w7 hM7).mono ?_
      rw [show hasK T (⟨#[111, 110, 108, 121, 45, 105, 102, 45, 99, 97, 99, 104, 101, 100]⟩ : ByteArray).data.toList = hasK T ocW from rfl]
      rintro e w8 ⟨rfl, hb8⟩
      have hM8 := hM7.below hb8
      have hB8 := hB7.trans (hb8.mono (by omega))
      have hg8 := (hb8.block w.heap.size (by omega)).trans hg7
      have hs8 := hb8.size
      clear hM7 hB7 hg7
      go_wp2_with fail
      refine (number_any T b HT.out ⟨#[109, 97, 120, 45, 97, 103, 101]⟩ (by decide) w8 hM8).mono ?_
      rw [show numM T (⟨#[109, 97, 120, 45, 97, 103, 101]⟩ : ByteArray).data.toList = numM T maW from rfl]
      rintro e w9 ⟨rfl, hb9⟩
      have hM9 := hM8.below hb9
      have hB9 := hB8.trans (hb9.mono (by omega))
      have hg9 := (hb9.block w.heap.size (by omega)).trans hg8
      have hs9 := hb9.size
      clear hM8 hB8 hg8
      go_wp2_with fail
      refine (number_any T b HT.out ⟨#[115, 45, 109, 97, 120, 97, 103, 101]⟩ (by decide) w9 hM9).mono ?_
      rw [show numM T (⟨#[115, 45, 109, 97, 120, 97, 103, 101]⟩ : ByteArray).data.toList = numM T smW from rfl]
      rintro e w10 ⟨rfl, hb10⟩
      have hM10 := hM9.below hb10
      have hB10 := hB9.trans (hb10.mono (by omega))
      have hg10 := (hb10.block w.heap.size (by omega)).trans hg9
      have hs10 := hb10.size
      clear hM9 hB9 hg9
      go_wp2_with fail
      refine (number_any T b HT.out ⟨#[109, 105, 110, 45, 102, 114, 101, 115, 104]⟩ (by decide) w10 hM10).mono ?_
      rw [show numM T (⟨#[109, 105, 110, 45, 102, 114, 101, 115, 104]⟩ : ByteArray).data.toList = numM T mfW from rfl]
      rintro e w11 ⟨rfl, hb11⟩
      have hM11 := hM10.below hb11
      have hB11 := hB10.trans (hb11.mono (by omega))
      have hg11 := (hb11.block w.heap.size (by omega)).trans hg10
      have hs11 := hb11.size
      clear hM10 hB10 hg10
      go_wp2_with fail
      refine (patience_any T b HT.out w11 hM11).mono ?_
      rintro e w12 ⟨rfl, hb12⟩
      have hM12 := hM11.below hb12
      have hB12 := hB11.trans (hb12.mono (by omega))
      have hg12 := (hb12.block w.heap.size (by omega)).trans hg11
      have hs12 := hb12.size
      clear hM11 hB11 hg11
      have hrun := HRUN.out w12
      have hfz : ∀ j, w12.frozen? ⟨w.heap.size, j, none⟩ = false := fun j => frozen_of_row _ _ _ _ _ hg12
      have z0 : w12.cell? ⟨w.heap.size, 0, none⟩ = some (.bool false) := by rw [cell_of_row _ _ _ _ _ _ hg12]; rfl
      have z1 : w12.cell? ⟨w.heap.size, 1, none⟩ = some (.bool false) := by rw [cell_of_row _ _ _ _ _ _ hg12]; rfl
      have z2 : w12.cell? ⟨w.heap.size, 2, none⟩ = some (.bool false) := by rw [cell_of_row _ _ _ _ _ _ hg12]; rfl
      have z3 : w12.cell? ⟨w.heap.size, 3, none⟩ = some (.bool false) := by rw [cell_of_row _ _ _ _ _ _ hg12]; rfl
      have z4 : w12.cell? ⟨w.heap.size, 4, none⟩ = some (.bool false) := by rw [cell_of_row _ _ _ _ _ _ hg12]; rfl
      have z5 : w12.cell? ⟨w.heap.size, 5, none⟩ = some (.bool false) := by rw [cell_of_row _ _ _ _ _ _ hg12]; rfl
      have z6 : w12.cell? ⟨w.heap.size, 6, none⟩ = some (.int .i64 0) := by rw [cell_of_row _ _ _ _ _ _ hg12]; rfl
      have z7 : w12.cell? ⟨w.heap.size, 7, none⟩ = some (.int .i64 0) := by rw [cell_of_row _ _ _ _ _ _ hg12]; rfl
      have z8 : w12.cell? ⟨w.heap.size, 8, none⟩ = some (.int .i64 0) := by rw [cell_of_row _ _ _ _ _ _ hg12]; rfl
      have z9 : w12.cell? ⟨w.heap.size, 9, none⟩ = some (.int .i64 0) := by rw [cell_of_row _ _ _ _ _ _ hg12]; rfl
      clear hM12 hrun
      have HNC := Lib.hid (show (hasK T ncW || false) = true by rw [hnc]; rfl)
      go_wp2_with fail
      refine bodyPost_ret (v := ctlV T false) (by unfold ctlV; rw [HNC.out]; simp [results, Tryd.results13, go_sem, z0, z1, z2, z3, z4, z5, z6, z7, z8, z9]) rfl ⟨?_, ?_⟩
      · rw [ctlV_same T _ (false) HTD.out]
        unfold ctlT
        rw [← show V = valuesOf L ccW from HV.out, ← show (false) = oldT L from HOLD.out]
      · exact ((((((((((hB12.setCell (p := ⟨w.heap.size, 0, none⟩) (Nat.le_refl _) _).setCell (p := ⟨w.heap.size, 1, none⟩) (Nat.le_refl _) _).setCell (p := ⟨w.heap.size, 2, none⟩) (Nat.le_refl _) _).setCell (p := ⟨w.heap.size, 3, none⟩) (Nat.le_refl _) _).setCell (p := ⟨w.heap.size, 4, none⟩) (Nat.le_refl _) _).setCell (p := ⟨w.heap.size, 5, none⟩) (Nat.le_refl _) _).setCell (p := ⟨w.heap.size, 6, none⟩) (Nat.le_refl _) _).setCell (p := ⟨w.heap.size, 7, none⟩) (Nat.le_refl _) _).setCell (p := ⟨w.heap.size, 8, none⟩) (Nat.le_refl _) _).setCell (p := ⟨w.heap.size, 9, none⟩) (Nat.le_refl _) _)
end Go.Proofs.YtnengooipemffaaDoor
