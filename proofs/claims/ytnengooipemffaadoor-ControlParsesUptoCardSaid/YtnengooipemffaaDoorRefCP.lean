/-
  find, number, Has, Parse: the document's.
-/
import Derived.Test.YtnengooipemffaaDoorRefDirs
import Derived.Test.YtnengooipemffaaDoorCParse
namespace Go.Proofs.YtnengooipemffaaDoor
open Go.RowKit

def findI (D : List Ent) (k : List UInt8) : Int := if D.findIdx (fun x => decide (x.1 = k)) < D.length then (D.findIdx (fun x => decide (x.1 = k)) : Int) else -1
theorem findI_at (D : List Ent) (k : List UInt8) (i : Nat) (h : i < D.length) (h1 : D[i].1 = k) (h0 : ∀ j, (hj : j < D.length) → j < i → D[j].1 ≠ k) : findI D k = i := by
  have e : D.findIdx (fun x => decide (x.1 = k)) = i := by
    rw [List.findIdx_eq h]
    exact ⟨by simpa using h1, fun j hj => by simpa using h0 j (by omega) hj⟩
  unfold findI
  rw [e, if_pos h]
theorem findI_none (D : List Ent) (k : List UInt8) (h0 : ∀ j, (hj : j < D.length) → D[j].1 ≠ k) : findI D k = -1 := by
  unfold findI
  rw [if_neg]
  intro h
  have := List.findIdx_getElem (p := fun x : Ent => decide (x.1 = k)) (xs := D) (w := h)
  exact h0 _ h (of_decide_eq_true this)
theorem findI_look (D : List Ent) (k : List UInt8) : (findI D k = -1 ∧ lookM D k = none) ∨ ∃ i, ∃ h : i < D.length, findI D k = (i : Int) ∧ lookM D k = some D[i].2 := by
  by_cases h : D.findIdx (fun x => decide (x.1 = k)) < D.length
  · right
    refine ⟨_, h, by unfold findI; rw [if_pos h], ?_⟩
    unfold lookM
    have h1 := List.findIdx_getElem (p := fun x : Ent => decide (x.1 = k)) (xs := D) (w := h)
    have h2 : D.find? (fun x => decide (x.1 = k)) = some D[D.findIdx (fun x => decide (x.1 = k))] := by
      rw [List.find?_eq_some_iff_getElem]
      refine ⟨h1, _, h, rfl, fun j hj => ?_⟩
      have := List.not_of_lt_findIdx hj
      simpa using this
    rw [h2]; rfl
  · left
    refine ⟨by unfold findI; rw [if_neg h], ?_⟩
    unfold lookM
    rw [List.find?_eq_none.2]
    · rfl
    · intro x hx
      rw [List.findIdx_lt_length] at h
      intro hd
      exact h ⟨x, hx, hd⟩

/-- directives stand at the address -/
def InD (w : World) (p : Option Addr) (D : List Ent) : Prop := 0 < D.length → ∃ g, p = some ⟨g, 0, none⟩ ∧ ∀ j u, (de D)[j]? = some u → w.cell? ⟨g, j, none⟩ = some u
theorem InD.below {w w' : World} {p : Option Addr} {D : List Ent} (h : InD w p D) (hb : Below w.heap.size w w') : InD w' p D := by
  intro h0
  obtain ⟨g, rfl, hc⟩ := h h0
  exact ⟨g, rfl, fun j u hj => (hb.cell (World.block_lt_of_cell? w _ (hc j u hj))).trans (hc j u hj)⟩

set_option maxHeartbeats 2000000 in
theorem find_any (D : List Ent) (p : Option Addr) (n c : Nat) (hn : D.length = n) (hr : n ≤ 5000000000000) (k : ByteArray) (w : World) (h : InD w p D) :
    Calls Tryd.prog 28 #[.slice p n c, .string k] w fun e w' => e = .returned (.int .i64 (findI D k.data.toList)) ∧ w = w' := by
  subst hn
  go_enter Tryd.func28, Tryd.ntmps28
  go_wp2_with fail
  go_loopw [4, 5] (fun v i wr => ∃ m : Nat, m ≤ D.length ∧ v = .int .i64 0 ∧ i = .int .i64 m ∧ (∀ j, (hj : j < D.length) → j < m → D[j].1 ≠ k.data.toList) ∧ w = wr) (fun _ i _ => D.length - (intOf i).toNat)
  case atStart => exact ⟨0, Nat.zero_le _, rfl, rfl, fun j _ h => absurd h (Nat.not_lt_zero j), rfl⟩
  case round =>
    obtain ⟨m, hm, rfl, rfl, hall, rfl⟩ := hrel
    have HALL := Lib.hid hall
    clear hall
    by_cases hlt : m < D.length
    · obtain ⟨g, rfl, hc⟩ := h (by omega)
      have hcell := hc _ _ (de_get D m hlt).1
      obtain ⟨y, hy⟩ : ∃ y : ByteArray, y = ⟨D[m].1.toArray⟩ := ⟨_, rfl⟩
      have hyd : y.data.toList = D[m].1 := by rw [hy]
      rw [← hy] at hcell
      have HY := Lib.hid hyd
      have hR : (y.toList == k.toList) = decide (D[m].1 = k.data.toList) := by rw [strs_eq, hyd]
      clear hy hyd hc
      by_cases he : D[m].1 = k.data.toList
      · rw [decide_eq_true he] at hR
        have HR := Lib.hid (findI_at D k.data.toList m hlt he HALL.out)
        clear he
        go_wp2_with fail
        go_ret
        exact ⟨by rw [HR.out]; rfl, rfl⟩
      · rw [decide_eq_false he] at hR
        have HE := Lib.hid he
        clear he
        go_wp2_with fail
        go_roundw
        case rel =>
          refine ⟨m + 1, by omega, by trivial, by go_num, fun j hj hjm => ?_, by trivial⟩
          by_cases e : j = m
          · subst e; exact HE.out
          · exact HALL.out j hj (by omega)
        case measure => simp [intOf]; omega
    · obtain rfl : m = D.length := by omega
      have HR := Lib.hid (findI_none D k.data.toList (fun j hj => HALL.out j hj hj))
      go_wp2_with fail
      go_ret
      exact ⟨by rw [HR.out]; rfl, rfl⟩

set_option maxHeartbeats 2000000 in
theorem refNumber_any (D : List Ent) (p : Option Addr) (n c : Nat) (hn : D.length = n) (hr : n ≤ 5000000000000) (k : ByteArray) (w : World) (h : InD w p D) (hD : ∀ x ∈ D, x.2.1.length ≤ 140737488351232) :
    Calls Tryd.prog 27 #[.slice p n c, .string k] w fun e w' => e = .returned (.int .i64 (numM D k.data.toList)) ∧ w = w' := by
  subst hn
  have hf := find_any D p _ c rfl hr k w h
  rcases findI_look D k.data.toList with ⟨h1, h2⟩ | ⟨i, hi, h1, h2⟩
  · have HR := Lib.hid (show numM D k.data.toList = -1 by unfold numM; rw [h2])
    rw [h1] at hf
    clear h1 h2 hD h
    go_enter Tryd.func27, Tryd.ntmps27
    go_wp2_with fail
    refine hf.mono ?_
    rintro e w1 ⟨rfl, rfl⟩
    go_wp2_with fail
    go_ret
    exact ⟨by rw [HR.out]; rfl, rfl⟩
  · obtain ⟨g, rfl, hc⟩ := h (by omega)
    have hcell := hc _ _ (de_get D i hi).2.1
    have hsz := hD D[i] (List.getElem_mem hi)
    obtain ⟨y, hy⟩ : ∃ y : ByteArray, y = ⟨D[i].2.1.toArray⟩ := ⟨_, rfl⟩
    have hyd : y.data.toList = D[i].2.1 := by rw [hy]
    rw [← hy] at hcell
    have hsec := refSeconds_any y w (by rw [← size_list, hyd]; exact hsz)
    have HR := Lib.hid (show numM D k.data.toList = max 0 (secT y.data.toList) by unfold numM; rw [h2, hyd])
    have hrg := secT_range y.data.toList
    obtain ⟨z, hz⟩ : ∃ z, z = secT y.data.toList := ⟨_, rfl⟩
    rw [← hz] at hsec hrg
    have HZ := Lib.hid hz
    rw [h1] at hf
    have hi0 : ¬ (i : Int) < 0 := by omega
    clear h1 h2 hD hc hy hyd hz hsz
    go_enter Tryd.func27, Tryd.ntmps27
    go_wp2_with fail
    refine hf.mono ?_
    rintro e w1 ⟨rfl, rfl⟩
    go_wp2_with fail
    refine hsec.mono ?_
    rintro e w2 ⟨rfl, rfl⟩
    by_cases hneg : z < 0
    · go_wp2_with fail
      go_ret
      exact ⟨by rw [HR.out, ← HZ.out, show max 0 z = 0 by omega]; rfl, rfl⟩
    · go_wp2_with fail
      go_ret
      exact ⟨by rw [HR.out, ← HZ.out, show max 0 z = z by omega]; rfl, rfl⟩

set_option maxHeartbeats 4000000 in
/-- Has: is a word among the elements of a name's values? -/
theorem refHas_any (L : List Pair) (p : Option Addr) (n c : Nat) (hn : L.length = n) (hr : n ≤ 4000000) (nm wd : ByteArray) (hnm : nm.size ≤ 1000) (hsz : ∀ x ∈ L, x.1.length ≤ 140737488351232 ∧ x.2.length ≤ 4000000000) (hT : (tokensOf L nm.data.toList).length ≤ 8000000000000) (w : World) (h : In2 w p L) :
    Calls Tryd.prog 30 #[.slice p n c, .string nm, .string wd] w fun e w' => e = .returned (.bool ((tokensOf L nm.data.toList).contains wd.data.toList)) ∧ Below w.heap.size w w' := by
  have hcall := refTokens_any L p n c hn (by omega) nm (by omega) hsz hT w h
  obtain ⟨Z, hZ⟩ : ∃ Z, Z = tokensOf L nm.data.toList := ⟨_, rfl⟩
  rw [← hZ] at hcall hT ⊢
  have HCO := Lib.hid (show ∀ b : Bool, (b = true ↔ wd.data.toList ∈ Z) → Z.contains wd.data.toList = b from fun b hb => by rw [Bool.eq_iff_iff, List.contains_iff_mem]; exact hb.symm)
  clear hZ hsz
  go_enter Tryd.func30, Tryd.ntmps30
  go_wp2_with fail
  refine hcall.mono ?_
  rintro e w1 ⟨v1, rfl, hown, hb⟩
  obtain ⟨q, cq, rfl, _, _, hin, _⟩ := hown.shape rfl
  clear hown hcall
  go_wp2_with fail
  go_loopw [6, 8] (fun v i wr => ∃ m : Nat, m ≤ Z.length ∧ v = .bool false ∧ i = .int .i64 m ∧ (∀ j, (hj : j < Z.length) → j < m → Z[j] ≠ wd.data.toList) ∧ w1 = wr) (fun _ i _ => Z.length - (intOf i).toNat)
  case atStart => exact ⟨0, Nat.zero_le _, rfl, rfl, fun j _ h => absurd h (Nat.not_lt_zero j), rfl⟩
  case round =>
    obtain ⟨m, hm, rfl, rfl, hall, rfl⟩ := hrel
    have HALL := Lib.hid hall
    clear hall
    by_cases hlt : m < Z.length
    · obtain ⟨g, o, rfl, y, hcell, hy⟩ := hin.at hlt
      have HY := Lib.hid hy
      have hR : (y.toList == wd.toList) = decide (Z[m] = wd.data.toList) := by rw [strs_eq, hy]
      clear hy
      by_cases he : Z[m] = wd.data.toList
      · rw [decide_eq_true he] at hR
        have HR := Lib.hid (HCO.out true ⟨fun _ => he ▸ List.getElem_mem hlt, fun _ => rfl⟩)
        clear he
        go_wp2_with fail
        go_ret
        exact ⟨by rw [HR.out]; rfl, hb⟩
      · rw [decide_eq_false he] at hR
        have HE := Lib.hid he
        clear he
        go_wp2_with fail
        go_roundw
        case rel =>
          refine ⟨m + 1, by omega, by trivial, by go_num, fun j hj hjm => ?_, by trivial⟩
          by_cases e : j = m
          · subst e; exact HE.out
          · exact HALL.out j hj (by omega)
        case measure => simp [intOf]; omega
    · obtain rfl : m = Z.length := by omega
      have hno : ¬ wd.data.toList ∈ Z := by
        intro h
        obtain ⟨j, hj, e⟩ := List.getElem_of_mem h
        exact HALL.out j hj hj e
      have HR := Lib.hid (HCO.out false ⟨fun h => Bool.noConfusion h, fun h => absurd h hno⟩)
      clear hno
      go_wp2_with fail
      go_ret
      exact ⟨by rw [HR.out]; rfl, hb⟩

theorem values_fold (L : List Pair) (a b : List UInt8) (h : fold a = fold b) : valuesOf L a = valuesOf L b := by
  unfold valuesOf hasName
  rw [h]
theorem tokens_fold (L : List Pair) (a b : List UInt8) (h : fold a = fold b) : tokensOf L a = tokensOf L b := by
  unfold tokensOf
  rw [values_fold L a b h]

theorem findK (D : List Ent) (k : List UInt8) : decide (0 ≤ findI D k) = hasK D k := by
  rcases findI_look D k with ⟨h1, h2⟩ | ⟨i, hi, h1, h2⟩
  · rw [h1]; unfold hasK; rw [h2]; rfl
  · rw [h1]; unfold hasK; rw [h2]; simp
set_option maxHeartbeats 8000000 in
set_option maxRecDepth 100000 in
theorem refParse15_any (L : List Pair) (p : Option Addr) (n c : Nat) (hn : L.length = n) (hr : n ≤ 1048576) (w : World) (h : In2 w p L) (hL : ∀ x ∈ L, x.1.length ≤ 1048576 ∧ x.2.length ≤ 1048576) (hTL : (tokensOf L pgW).length ≤ 8000000000000) :
    Calls Tryd.prog 14 #[.slice p n c] w fun e w' => e = .returned (ctlT L) ∧ Below w.heap.size w w' := by
  have HL2 := Lib.hid (show ∀ x ∈ L, x.1.length ≤ 140737488351232 ∧ x.2.length ≤ 4000000000 from fun x hx => by have := hL x hx; exact ⟨by omega, by omega⟩)
  have HL1 := Lib.hid (show ∀ x ∈ L, x.1.length ≤ 140737488351232 from fun x hx => (HL2.out x hx).1)
  have hb0 := (Below.refl w.heap.size w).alloc (Nat.le_refl _) zeroC
  have hs0 : (w.alloc zeroC).heap.size = w.heap.size + 1 := by simp
  have hg0 := heap_alloc_new w zeroC
  have hd := refDirs_any L p n c hn hr (w.alloc zeroC) (h.alloc _) hL
  have hvl := values_length L ccW
  have hD5 : (dirsOf (valuesOf L ccW)).length ≤ 5000000000000 := by
    have h1 := dirs_len 1048576 (valuesOf L ccW) (fun v hv => by
      obtain ⟨x, hx, rfl⟩ := values_mem L _ v hv
      exact (hL x hx).2)
    have h3 := Nat.mul_le_mul_right (1048576 + 1) (show (valuesOf L ccW).length ≤ 1048576 by omega)
    omega
  have hDS : ∀ x ∈ dirsOf (valuesOf L ccW), x.2.1.length ≤ 140737488351232 := by
    intro x hx
    unfold dirsOf at hx
    obtain ⟨v, hv, hx⟩ := List.mem_flatMap.1 hx
    obtain ⟨d, hdl, rfl⟩ := List.mem_map.1 hx
    obtain ⟨y, hy, rfl⟩ := values_mem L _ v hv
    have h1 := (listOf_el _ d hdl).2.2.1
    have h2 := (dirT_small d).2
    have h3 := (hL y hy).2
    omega
  rw [values_fold L [99, 97, 99, 104, 101, 45, 99, 111, 110, 116, 114, 111, 108] ccW (by decide), hs0] at hd
  obtain ⟨D, hDD⟩ : ∃ D, D = dirsOf (valuesOf L ccW) := ⟨_, rfl⟩
  rw [← hDD] at hd hD5 hDS
  have HDD := Lib.hid hDD
  have HDS := Lib.hid hDS
  obtain ⟨old, hold⟩ : ∃ o, o = oldT L := ⟨_, rfl⟩
  have HOLD := Lib.hid hold
  have hrv := fun W (hW : Below w.heap.size w W) => refValues_any L p n c hn (by omega) ⟨#[99, 97, 99, 104, 101, 45, 99, 111, 110, 116, 114, 111, 108]⟩ (by decide) HL1.out W (h.below hW)
  have hrh := fun W (hW : Below w.heap.size w W) => refHas_any L p n c hn (by omega) ⟨#[112, 114, 97, 103, 109, 97]⟩ ⟨#[110, 111, 45, 99, 97, 99, 104, 101]⟩ (by decide) HL2.out (by rw [show (⟨#[112, 114, 97, 103, 109, 97]⟩ : ByteArray).data.toList = [112, 114, 97, 103, 109, 97] from rfl, tokens_fold L [112, 114, 97, 103, 109, 97] pgW (by decide)]; exact hTL) W (h.below hW)
  rw [show (⟨#[99, 97, 99, 104, 101, 45, 99, 111, 110, 116, 114, 111, 108]⟩ : ByteArray).data.toList = [99, 97, 99, 104, 101, 45, 99, 111, 110, 116, 114, 111, 108] from rfl, values_fold L [99, 97, 99, 104, 101, 45, 99, 111, 110, 116, 114, 111, 108] ccW (by decide)] at hrv
  rw [show (⟨#[112, 114, 97, 103, 109, 97]⟩ : ByteArray).data.toList = [112, 114, 97, 103, 109, 97] from rfl, show (⟨#[110, 111, 45, 99, 97, 99, 104, 101]⟩ : ByteArray).data.toList = ncW from rfl, tokens_fold L [112, 114, 97, 103, 109, 97] pgW (by decide)] at hrh
  have HRV := Lib.hid hrv
  have HRH := Lib.hid hrh
  clear hDD hold hL hDS hrv hrh
  go_enter Tryd.func14, Tryd.ntmps14
  go_wp2_with fail
  refine hd.mono ?_
  rintro e w1 ⟨v1, rfl, hown1, hb1⟩
  have hB1 := hb0.trans (hb1.mono (by omega))
  have hs1 := hb1.size
  rw [hs0] at hs1
  have hs1' : w.heap.size ≤ w1.heap.size := by omega
  have hg1 := (hb1.block w.heap.size (by omega)).trans hg0
  obtain ⟨pd, cd, rfl, _, _, hcd⟩ := hown1.shape rfl
  have hinD : InD w1 pd D := fun h0 => by obtain ⟨g, e1, _, e2⟩ := hcd h0; exact ⟨g, e1, e2⟩
  have HF := Lib.hid (fun (k : ByteArray) W (hW : Below w1.heap.size w1 W) => find_any D pd D.length cd rfl hD5 k W (hinD.below hW))
  have HN := Lib.hid (fun (k : ByteArray) => refNumber_any D pd D.length cd rfl hD5 k w1 hinD HDS.out)
  have HIN := Lib.hid hinD
  clear hd hown1 hcd hinD hb1 hg0
  go_wp2_with fail
  refine (HN.out ⟨#[109, 97, 120, 45, 97, 103, 101]⟩).mono ?_
  rw [show numM D (⟨#[109, 97, 120, 45, 97, 103, 101]⟩ : ByteArray).data.toList = numM D maW from rfl]
  rintro e w2 ⟨rfl, rfl⟩
  go_wp2_with fail
  refine (HN.out ⟨#[115, 45, 109, 97, 120, 97, 103, 101]⟩).mono ?_
  rw [show numM D (⟨#[115, 45, 109, 97, 120, 97, 103, 101]⟩ : ByteArray).data.toList = numM D smW from rfl]
  rintro e w2 ⟨rfl, rfl⟩
  go_wp2_with fail
  refine (HN.out ⟨#[109, 105, 110, 45, 102, 114, 101, 115, 104]⟩).mono ?_
  rw [show numM D (⟨#[109, 105, 110, 45, 102, 114, 101, 115, 104]⟩ : ByteArray).data.toList = numM D mfW from rfl]
  rintro e w2 ⟨rfl, rfl⟩
  obtain ⟨zma, hzma⟩ : ∃ z, z = numM D maW := ⟨_, rfl⟩
  obtain ⟨zsm, hzsm⟩ : ∃ z, z = numM D smW := ⟨_, rfl⟩
  obtain ⟨zmf, hzmf⟩ : ∃ z, z = numM D mfW := ⟨_, rfl⟩
  rw [← hzma, ← hzsm, ← hzmf]
  have HZ1 := Lib.hid hzma
  have HZ2 := Lib.hid hzsm
  have HZ3 := Lib.hid hzmf
  clear hzma hzsm hzmf

  obtain ⟨fns, hfns⟩ : ∃ z, z = findI D nsW := ⟨_, rfl⟩
  have Fns := Lib.hid (fun (W : World) (cs : Array Value) (hW : Below w1.heap.size w1 W) (hc : W.heap[w1.heap.size]? = some (.cells cs 28 (0, 0))) => show Calls Tryd.prog 28 #[.slice pd D.length cd, .string ⟨#[110, 111, 45, 115, 116, 111, 114, 101]⟩] W fun e w' => e = .returned (.int .i64 fns) ∧ Below w1.heap.size w1 w' ∧ w'.heap[w1.heap.size]? = some (.cells cs 28 (0, 0)) by
    refine (HF.out ⟨#[110, 111, 45, 115, 116, 111, 114, 101]⟩ W hW).mono ?_
    rintro e w' ⟨rfl, rfl⟩
    exact ⟨by rw [hfns]; rfl, hW, hc⟩)
  have Kns := Lib.hid (show decide (0 ≤ fns) = hasK D nsW by rw [hfns]; exact findK D nsW)
  obtain ⟨fnc, hfnc⟩ : ∃ z, z = findI D ncW := ⟨_, rfl⟩
  have Fnc := Lib.hid (fun (W : World) (cs : Array Value) (hW : Below w1.heap.size w1 W) (hc : W.heap[w1.heap.size]? = some (.cells cs 28 (0, 0))) => show Calls Tryd.prog 28 #[.slice pd D.length cd, .string ⟨#[110, 111, 45, 99, 97, 99, 104, 101]⟩] W fun e w' => e = .returned (.int .i64 fnc) ∧ Below w1.heap.size w1 w' ∧ w'.heap[w1.heap.size]? = some (.cells cs 28 (0, 0)) by
    refine (HF.out ⟨#[110, 111, 45, 99, 97, 99, 104, 101]⟩ W hW).mono ?_
    rintro e w' ⟨rfl, rfl⟩
    exact ⟨by rw [hfnc]; rfl, hW, hc⟩)
  have Knc := Lib.hid (show decide (0 ≤ fnc) = hasK D ncW by rw [hfnc]; exact findK D ncW)
  obtain ⟨fpr, hfpr⟩ : ∃ z, z = findI D prW := ⟨_, rfl⟩
  have Fpr := Lib.hid (fun (W : World) (cs : Array Value) (hW : Below w1.heap.size w1 W) (hc : W.heap[w1.heap.size]? = some (.cells cs 28 (0, 0))) => show Calls Tryd.prog 28 #[.slice pd D.length cd, .string ⟨#[112, 114, 105, 118, 97, 116, 101]⟩] W fun e w' => e = .returned (.int .i64 fpr) ∧ Below w1.heap.size w1 w' ∧ w'.heap[w1.heap.size]? = some (.cells cs 28 (0, 0)) by
    refine (HF.out ⟨#[112, 114, 105, 118, 97, 116, 101]⟩ W hW).mono ?_
    rintro e w' ⟨rfl, rfl⟩
    exact ⟨by rw [hfpr]; rfl, hW, hc⟩)
  have Kpr := Lib.hid (show decide (0 ≤ fpr) = hasK D prW by rw [hfpr]; exact findK D prW)
  obtain ⟨fpu, hfpu⟩ : ∃ z, z = findI D puW := ⟨_, rfl⟩
  have Fpu := Lib.hid (fun (W : World) (cs : Array Value) (hW : Below w1.heap.size w1 W) (hc : W.heap[w1.heap.size]? = some (.cells cs 28 (0, 0))) => show Calls Tryd.prog 28 #[.slice pd D.length cd, .string ⟨#[112, 117, 98, 108, 105, 99]⟩] W fun e w' => e = .returned (.int .i64 fpu) ∧ Below w1.heap.size w1 w' ∧ w'.heap[w1.heap.size]? = some (.cells cs 28 (0, 0)) by
    refine (HF.out ⟨#[112, 117, 98, 108, 105, 99]⟩ W hW).mono ?_
    rintro e w' ⟨rfl, rfl⟩
    exact ⟨by rw [hfpu]; rfl, hW, hc⟩)
  have Kpu := Lib.hid (show decide (0 ≤ fpu) = hasK D puW by rw [hfpu]; exact findK D puW)
  obtain ⟨fmu, hfmu⟩ : ∃ z, z = findI D muW := ⟨_, rfl⟩
  have Fmu := Lib.hid (fun (W : World) (cs : Array Value) (hW : Below w1.heap.size w1 W) (hc : W.heap[w1.heap.size]? = some (.cells cs 28 (0, 0))) => show Calls Tryd.prog 28 #[.slice pd D.length cd, .string ⟨#[109, 117, 115, 116, 45, 114, 101, 118, 97, 108, 105, 100, 97, 116, 101]⟩] W fun e w' => e = .returned (.int .i64 fmu) ∧ Below w1.heap.size w1 w' ∧ w'.heap[w1.heap.size]? = some (.cells cs 28 (0, 0)) by
    refine (HF.out ⟨#[109, 117, 115, 116, 45, 114, 101, 118, 97, 108, 105, 100, 97, 116, 101]⟩ W hW).mono ?_
    rintro e w' ⟨rfl, rfl⟩
    exact ⟨by rw [hfmu]; rfl, hW, hc⟩)
  have Kmu := Lib.hid (show decide (0 ≤ fmu) = hasK D muW by rw [hfmu]; exact findK D muW)
  obtain ⟨fpx, hfpx⟩ : ∃ z, z = findI D pxW := ⟨_, rfl⟩
  have Fpx := Lib.hid (fun (W : World) (cs : Array Value) (hW : Below w1.heap.size w1 W) (hc : W.heap[w1.heap.size]? = some (.cells cs 28 (0, 0))) => show Calls Tryd.prog 28 #[.slice pd D.length cd, .string ⟨#[112, 114, 111, 120, 121, 45, 114, 101, 118, 97, 108, 105, 100, 97, 116, 101]⟩] W fun e w' => e = .returned (.int .i64 fpx) ∧ Below w1.heap.size w1 w' ∧ w'.heap[w1.heap.size]? = some (.cells cs 28 (0, 0)) by
    refine (HF.out ⟨#[112, 114, 111, 120, 121, 45, 114, 101, 118, 97, 108, 105, 100, 97, 116, 101]⟩ W hW).mono ?_
    rintro e w' ⟨rfl, rfl⟩
    exact ⟨by rw [hfpx]; rfl, hW, hc⟩)
  have Kpx := Lib.hid (show decide (0 ≤ fpx) = hasK D pxW by rw [hfpx]; exact findK D pxW)
  obtain ⟨foc, hfoc⟩ : ∃ z, z = findI D ocW := ⟨_, rfl⟩
  have Foc := Lib.hid (fun (W : World) (cs : Array Value) (hW : Below w1.heap.size w1 W) (hc : W.heap[w1.heap.size]? = some (.cells cs 28 (0, 0))) => show Calls Tryd.prog 28 #[.slice pd D.length cd, .string ⟨#[111, 110, 108, 121, 45, 105, 102, 45, 99, 97, 99, 104, 101, 100]⟩] W fun e w' => e = .returned (.int .i64 foc) ∧ Below w1.heap.size w1 w' ∧ w'.heap[w1.heap.size]? = some (.cells cs 28 (0, 0)) by
    refine (HF.out ⟨#[111, 110, 108, 121, 45, 105, 102, 45, 99, 97, 99, 104, 101, 100]⟩ W hW).mono ?_
    rintro e w' ⟨rfl, rfl⟩
    exact ⟨by rw [hfoc]; rfl, hW, hc⟩)
  have Koc := Lib.hid (show decide (0 ≤ foc) = hasK D ocW by rw [hfoc]; exact findK D ocW)
  obtain ⟨fst, hfst⟩ : ∃ z, z = findI D staleL := ⟨_, rfl⟩
  have Fst := Lib.hid (fun (W : World) (cs : Array Value) (hW : Below w1.heap.size w1 W) (hc : W.heap[w1.heap.size]? = some (.cells cs 28 (0, 0))) => show Calls Tryd.prog 28 #[.slice pd D.length cd, .string ⟨#[109, 97, 120, 45, 115, 116, 97, 108, 101]⟩] W fun e w' => e = .returned (.int .i64 fst) ∧ Below w1.heap.size w1 w' ∧ w'.heap[w1.heap.size]? = some (.cells cs 28 (0, 0)) by
    refine (HF.out ⟨#[109, 97, 120, 45, 115, 116, 97, 108, 101]⟩ W hW).mono ?_
    rintro e w' ⟨rfl, rfl⟩
    exact ⟨by rw [hfst]; rfl, hW, hc⟩)
  have Kst := Lib.hid (show decide (0 ≤ fst) = hasK D staleL by rw [hfst]; exact findK D staleL)
  have HST := Lib.hid hfst
  clear hfns hfnc hfpr hfpu hfmu hfpx hfoc hfst
  have hB2 : Below w1.heap.size w1 (w1.alloc (.cells #[.bool false, .bool false, .bool false, .bool false, .bool false, .bool false, .int .i64 zma, .int .i64 zsm, .int .i64 zmf, .int .i64 (-1)] 28)) := (Below.refl _ w1).alloc (Nat.le_refl _) _
  have hR2 : (w1.alloc (.cells #[.bool false, .bool false, .bool false, .bool false, .bool false, .bool false, .int .i64 zma, .int .i64 zsm, .int .i64 zmf, .int .i64 (-1)] 28)).heap[w1.heap.size]? = some (.cells #[.bool false, .bool false, .bool false, .bool false, .bool false, .bool false, .int .i64 zma, .int .i64 zsm, .int .i64 zmf, .int .i64 (-1)] 28 (0, 0)) := heap_alloc_new w1 _
  go_wp2_with fail
  refine (Fns.out _ _ hB2 hR2).mono ?_
  rintro e w3 ⟨rfl, hB3, hR3⟩
  clear hB2 hR2
  have z0 : w3.cell? ⟨w1.heap.size, 0, none⟩ = some (.bool false) := by rw [cell_of_row _ _ _ _ _ _ hR3]; rfl
  have y3 : ∀ j, w3.frozen? ⟨w1.heap.size, j, none⟩ = false := fun j => frozen_of_row _ _ _ _ _ hR3
  have hB3' := hB3.setCell (p := ⟨w1.heap.size, 0, none⟩) (Nat.le_refl _) (.bool (decide (0 ≤ fns)))
  have hR3' : (w3.setCell ⟨w1.heap.size, 0, none⟩ (.bool (decide (0 ≤ fns)))).heap[w1.heap.size]? = some (.cells #[.bool (decide (0 ≤ fns)), .bool false, .bool false, .bool false, .bool false, .bool false, .int .i64 zma, .int .i64 zsm, .int .i64 zmf, .int .i64 (-1)] 28 (0, 0)) := heap_setCell_same _ _ _ _ _ _ hR3
  go_wp2_with fail
  refine (Fnc.out _ _ hB3' hR3').mono ?_
  rintro e w4 ⟨rfl, hB4, hR4⟩
  clear hB3' hR3' z0 y3 hR3 hB3
  have z1 : w4.cell? ⟨w1.heap.size, 1, none⟩ = some (.bool false) := by rw [cell_of_row _ _ _ _ _ _ hR4]; rfl
  have y4 : ∀ j, w4.frozen? ⟨w1.heap.size, j, none⟩ = false := fun j => frozen_of_row _ _ _ _ _ hR4
  have hB4' := hB4.setCell (p := ⟨w1.heap.size, 1, none⟩) (Nat.le_refl _) (.bool (decide (0 ≤ fnc)))
  have hR4' : (w4.setCell ⟨w1.heap.size, 1, none⟩ (.bool (decide (0 ≤ fnc)))).heap[w1.heap.size]? = some (.cells #[.bool (decide (0 ≤ fns)), .bool (decide (0 ≤ fnc)), .bool false, .bool false, .bool false, .bool false, .int .i64 zma, .int .i64 zsm, .int .i64 zmf, .int .i64 (-1)] 28 (0, 0)) := heap_setCell_same _ _ _ _ _ _ hR4
  go_wp2_with fail
  refine (Fpr.out _ _ hB4' hR4').mono ?_
  rintro e w5 ⟨rfl, hB5, hR5⟩
  clear hB4' hR4' z1 y4 hR4 hB4
  have z2 : w5.cell? ⟨w1.heap.size, 2, none⟩ = some (.bool false) := by rw [cell_of_row _ _ _ _ _ _ hR5]; rfl
  have y5 : ∀ j, w5.frozen? ⟨w1.heap.size, j, none⟩ = false := fun j => frozen_of_row _ _ _ _ _ hR5
  have hB5' := hB5.setCell (p := ⟨w1.heap.size, 2, none⟩) (Nat.le_refl _) (.bool (decide (0 ≤ fpr)))
  have hR5' : (w5.setCell ⟨w1.heap.size, 2, none⟩ (.bool (decide (0 ≤ fpr)))).heap[w1.heap.size]? = some (.cells #[.bool (decide (0 ≤ fns)), .bool (decide (0 ≤ fnc)), .bool (decide (0 ≤ fpr)), .bool false, .bool false, .bool false, .int .i64 zma, .int .i64 zsm, .int .i64 zmf, .int .i64 (-1)] 28 (0, 0)) := heap_setCell_same _ _ _ _ _ _ hR5
  go_wp2_with fail
  refine (Fpu.out _ _ hB5' hR5').mono ?_
  rintro e w6 ⟨rfl, hB6, hR6⟩
  clear hB5' hR5' z2 y5 hR5 hB5
  have z3 : w6.cell? ⟨w1.heap.size, 3, none⟩ = some (.bool false) := by rw [cell_of_row _ _ _ _ _ _ hR6]; rfl
  have y6 : ∀ j, w6.frozen? ⟨w1.heap.size, j, none⟩ = false := fun j => frozen_of_row _ _ _ _ _ hR6
  have hB6' := hB6.setCell (p := ⟨w1.heap.size, 3, none⟩) (Nat.le_refl _) (.bool (decide (0 ≤ fpu)))
  have hR6' : (w6.setCell ⟨w1.heap.size, 3, none⟩ (.bool (decide (0 ≤ fpu)))).heap[w1.heap.size]? = some (.cells #[.bool (decide (0 ≤ fns)), .bool (decide (0 ≤ fnc)), .bool (decide (0 ≤ fpr)), .bool (decide (0 ≤ fpu)), .bool false, .bool false, .int .i64 zma, .int .i64 zsm, .int .i64 zmf, .int .i64 (-1)] 28 (0, 0)) := heap_setCell_same _ _ _ _ _ _ hR6
  go_wp2_with fail
  refine (Fmu.out _ _ hB6' hR6').mono ?_
  rintro e w7 ⟨rfl, hB7, hR7⟩
  clear hB6' hR6' z3 y6 hR6 hB6
  by_cases hmu : (0 : Int) ≤ fmu
  · have z4 : w7.cell? ⟨w1.heap.size, 4, none⟩ = some (.bool false) := by rw [cell_of_row _ _ _ _ _ _ hR7]; rfl
    have y7 : ∀ j, w7.frozen? ⟨w1.heap.size, j, none⟩ = false := fun j => frozen_of_row _ _ _ _ _ hR7
    have hB7' := hB7.setCell (p := ⟨w1.heap.size, 4, none⟩) (Nat.le_refl _) (.bool true)
    have hR7' : (w7.setCell ⟨w1.heap.size, 4, none⟩ (.bool true)).heap[w1.heap.size]? = some (.cells #[.bool (decide (0 ≤ fns)), .bool (decide (0 ≤ fnc)), .bool (decide (0 ≤ fpr)), .bool (decide (0 ≤ fpu)), .bool true, .bool false, .int .i64 zma, .int .i64 zsm, .int .i64 zmf, .int .i64 (-1)] 28 (0, 0)) := heap_setCell_same _ _ _ _ _ _ hR7
    go_wp2_with fail
    refine (Foc.out _ _ hB7' hR7').mono ?_
    rintro e w8 ⟨rfl, hB8, hR8⟩
    clear hB7' hR7' z4 y7 hR7 hB7
    have z5 : w8.cell? ⟨w1.heap.size, 5, none⟩ = some (.bool false) := by rw [cell_of_row _ _ _ _ _ _ hR8]; rfl
    have y8 : ∀ j, w8.frozen? ⟨w1.heap.size, j, none⟩ = false := fun j => frozen_of_row _ _ _ _ _ hR8
    have hB8' := hB8.setCell (p := ⟨w1.heap.size, 5, none⟩) (Nat.le_refl _) (.bool (decide (0 ≤ foc)))
    have hR8' : (w8.setCell ⟨w1.heap.size, 5, none⟩ (.bool (decide (0 ≤ foc)))).heap[w1.heap.size]? = some (.cells #[.bool (decide (0 ≤ fns)), .bool (decide (0 ≤ fnc)), .bool (decide (0 ≤ fpr)), .bool (decide (0 ≤ fpu)), .bool true, .bool (decide (0 ≤ foc)), .int .i64 zma, .int .i64 zsm, .int .i64 zmf, .int .i64 (-1)] 28 (0, 0)) := heap_setCell_same _ _ _ _ _ _ hR8
    go_wp2_with fail
    refine (Fst.out _ _ hB8' hR8').mono ?_
    rintro e w9 ⟨rfl, hB9, hR9⟩
    clear hB8' hR8' z5 y8 hR8 hB8
    rcases findI_look D staleL with ⟨q1, q2⟩ | ⟨ix, hix, q1, q2⟩
    · have hneg : ¬ (0 : Int) ≤ fst := by rw [HST.out, q1]; omega
      have HP := Lib.hid (show patM D = -1 by unfold patM; rw [q2])
      clear q1 q2
      have hBw := hB1.trans ((hB9).mono hs1')
      have hBz := (hB9).size
      have hval := HRV.out (w9) hBw
      clear hBw
      go_wp2_with fail
      refine hval.mono ?_
      rintro e wv ⟨vv, rfl, hownv, hbv⟩
      have hbv' := hbv.mono hBz
      have hBv := (hB9).trans hbv'
      have hRv := (hbv.block w1.heap.size (Array.getElem?_eq_some_iff.1 (hR9)).1).trans (hR9)
      obtain ⟨pz, cz, rfl, _, _, _, _⟩ := hownv.shape rfl
      clear hval hownv hbv hbv' hBz
      by_cases hv0 : (valuesOf L ccW).length = 0
      · have hvi : (((valuesOf L ccW).length : Int) == 0) = true := by rw [hv0]; rfl
        have hhas := HRH.out wv (hB1.trans (hBv.mono hs1'))
        have ho : old = (tokensOf L pgW).contains ncW := by
          rw [HOLD.out]; unfold oldT
          rw [List.isEmpty_iff.2 (List.length_eq_zero_iff.1 hv0), Bool.true_and]
        rw [← ho] at hhas
        have hBvs := hBv.size
        clear ho
        go_wp2_with fail
        refine hhas.mono ?_
        rintro e wh ⟨rfl, hbh⟩
        have hBh := hBv.trans (hbh.mono hBvs)
        have hRh := (hbh.block w1.heap.size (Array.getElem?_eq_some_iff.1 hRv).1).trans hRv
        clear hhas hbh hBv hRv
        cases old with
        | true =>
          have k1 : wh.cell? ⟨w1.heap.size, 1, none⟩ = some (.bool (decide (0 ≤ fnc))) := by rw [cell_of_row _ _ _ _ _ _ hRh]; rfl
          have kf : ∀ j, wh.frozen? ⟨w1.heap.size, j, none⟩ = false := fun j => frozen_of_row _ _ _ _ _ hRh
          have hBs := hBh.setCell (p := ⟨w1.heap.size, 1, none⟩) (Nat.le_refl _) (.bool true)
          have hRs : (wh.setCell ⟨w1.heap.size, 1, none⟩ (.bool true)).heap[w1.heap.size]? = some (.cells #[.bool (decide (0 ≤ fns)), .bool true, .bool (decide (0 ≤ fpr)), .bool (decide (0 ≤ fpu)), .bool true, .bool (decide (0 ≤ foc)), .int .i64 zma, .int .i64 zsm, .int .i64 zmf, .int .i64 (-1)] 28 (0, 0)) := heap_setCell_same _ _ _ _ _ _ hRh
          have hgW := (hBs.block w.heap.size (by omega)).trans hg1
          have z0 : (wh.setCell ⟨w1.heap.size, 1, none⟩ (.bool true)).cell? ⟨w1.heap.size, 0, none⟩ = some (.bool (decide (0 ≤ fns))) := by rw [cell_of_row _ _ _ _ _ _ hRs]; rfl
          have x0 : (wh.setCell ⟨w1.heap.size, 1, none⟩ (.bool true)).cell? ⟨w.heap.size, 0, none⟩ = some (.bool false) := by rw [cell_of_row _ _ _ _ _ _ hgW]; rfl
          have z1 : (wh.setCell ⟨w1.heap.size, 1, none⟩ (.bool true)).cell? ⟨w1.heap.size, 1, none⟩ = some (.bool true) := by rw [cell_of_row _ _ _ _ _ _ hRs]; rfl
          have x1 : (wh.setCell ⟨w1.heap.size, 1, none⟩ (.bool true)).cell? ⟨w.heap.size, 1, none⟩ = some (.bool false) := by rw [cell_of_row _ _ _ _ _ _ hgW]; rfl
          have z2 : (wh.setCell ⟨w1.heap.size, 1, none⟩ (.bool true)).cell? ⟨w1.heap.size, 2, none⟩ = some (.bool (decide (0 ≤ fpr))) := by rw [cell_of_row _ _ _ _ _ _ hRs]; rfl
          have x2 : (wh.setCell ⟨w1.heap.size, 1, none⟩ (.bool true)).cell? ⟨w.heap.size, 2, none⟩ = some (.bool false) := by rw [cell_of_row _ _ _ _ _ _ hgW]; rfl
          have z3 : (wh.setCell ⟨w1.heap.size, 1, none⟩ (.bool true)).cell? ⟨w1.heap.size, 3, none⟩ = some (.bool (decide (0 ≤ fpu))) := by rw [cell_of_row _ _ _ _ _ _ hRs]; rfl
          have x3 : (wh.setCell ⟨w1.heap.size, 1, none⟩ (.bool true)).cell? ⟨w.heap.size, 3, none⟩ = some (.bool false) := by rw [cell_of_row _ _ _ _ _ _ hgW]; rfl
          have z4 : (wh.setCell ⟨w1.heap.size, 1, none⟩ (.bool true)).cell? ⟨w1.heap.size, 4, none⟩ = some (.bool true) := by rw [cell_of_row _ _ _ _ _ _ hRs]; rfl
          have x4 : (wh.setCell ⟨w1.heap.size, 1, none⟩ (.bool true)).cell? ⟨w.heap.size, 4, none⟩ = some (.bool false) := by rw [cell_of_row _ _ _ _ _ _ hgW]; rfl
          have z5 : (wh.setCell ⟨w1.heap.size, 1, none⟩ (.bool true)).cell? ⟨w1.heap.size, 5, none⟩ = some (.bool (decide (0 ≤ foc))) := by rw [cell_of_row _ _ _ _ _ _ hRs]; rfl
          have x5 : (wh.setCell ⟨w1.heap.size, 1, none⟩ (.bool true)).cell? ⟨w.heap.size, 5, none⟩ = some (.bool false) := by rw [cell_of_row _ _ _ _ _ _ hgW]; rfl
          have z6 : (wh.setCell ⟨w1.heap.size, 1, none⟩ (.bool true)).cell? ⟨w1.heap.size, 6, none⟩ = some (.int .i64 zma) := by rw [cell_of_row _ _ _ _ _ _ hRs]; rfl
          have x6 : (wh.setCell ⟨w1.heap.size, 1, none⟩ (.bool true)).cell? ⟨w.heap.size, 6, none⟩ = some (.int .i64 0) := by rw [cell_of_row _ _ _ _ _ _ hgW]; rfl
          have z7 : (wh.setCell ⟨w1.heap.size, 1, none⟩ (.bool true)).cell? ⟨w1.heap.size, 7, none⟩ = some (.int .i64 zsm) := by rw [cell_of_row _ _ _ _ _ _ hRs]; rfl
          have x7 : (wh.setCell ⟨w1.heap.size, 1, none⟩ (.bool true)).cell? ⟨w.heap.size, 7, none⟩ = some (.int .i64 0) := by rw [cell_of_row _ _ _ _ _ _ hgW]; rfl
          have z8 : (wh.setCell ⟨w1.heap.size, 1, none⟩ (.bool true)).cell? ⟨w1.heap.size, 8, none⟩ = some (.int .i64 zmf) := by rw [cell_of_row _ _ _ _ _ _ hRs]; rfl
          have x8 : (wh.setCell ⟨w1.heap.size, 1, none⟩ (.bool true)).cell? ⟨w.heap.size, 8, none⟩ = some (.int .i64 0) := by rw [cell_of_row _ _ _ _ _ _ hgW]; rfl
          have z9 : (wh.setCell ⟨w1.heap.size, 1, none⟩ (.bool true)).cell? ⟨w1.heap.size, 9, none⟩ = some (.int .i64 (-1)) := by rw [cell_of_row _ _ _ _ _ _ hRs]; rfl
          have x9 : (wh.setCell ⟨w1.heap.size, 1, none⟩ (.bool true)).cell? ⟨w.heap.size, 9, none⟩ = some (.int .i64 0) := by rw [cell_of_row _ _ _ _ _ _ hgW]; rfl
          have xf : ∀ j, (wh.setCell ⟨w1.heap.size, 1, none⟩ (.bool true)).frozen? ⟨w.heap.size, j, none⟩ = false := fun j => frozen_of_row _ _ _ _ _ hgW
          have HV := Lib.hid (show ctlV D true = .agg #[.bool (decide (0 ≤ fns)), .bool true, .bool (decide (0 ≤ fpr)), .bool (decide (0 ≤ fpu)), .bool true, .bool (decide (0 ≤ foc)), .int .i64 zma, .int .i64 zsm, .int .i64 zmf, .int .i64 (-1)] by unfold ctlV; rw [← Kns.out, ← Knc.out, ← Kpr.out, ← Kpu.out, ← Kmu.out, ← Kpx.out, ← Koc.out, ← HZ1.out, ← HZ2.out, ← HZ3.out, HP.out]; simp [hmu])
          have HBF := Lib.hid (hB1.trans (hBs.mono hs1'))
          clear hgW
          go_wp2_with fail
          refine bodyPost_ret (v := ctlV D true) (by rw [HV.out]; simp [results, Tryd.results14, go_sem, x0, x1, x2, x3, x4, x5, x6, x7, x8, x9]) rfl ⟨?_, ?_⟩
          · unfold ctlT; rw [← show D = dirsOf (valuesOf L ccW) from HDD.out, ← show true = oldT L from HOLD.out]
          · exact ((((((((((HBF.out.setCell (p := ⟨w.heap.size, 0, none⟩) (Nat.le_refl _) _).setCell (p := ⟨w.heap.size, 1, none⟩) (Nat.le_refl _) _).setCell (p := ⟨w.heap.size, 2, none⟩) (Nat.le_refl _) _).setCell (p := ⟨w.heap.size, 3, none⟩) (Nat.le_refl _) _).setCell (p := ⟨w.heap.size, 4, none⟩) (Nat.le_refl _) _).setCell (p := ⟨w.heap.size, 5, none⟩) (Nat.le_refl _) _).setCell (p := ⟨w.heap.size, 6, none⟩) (Nat.le_refl _) _).setCell (p := ⟨w.heap.size, 7, none⟩) (Nat.le_refl _) _).setCell (p := ⟨w.heap.size, 8, none⟩) (Nat.le_refl _) _).setCell (p := ⟨w.heap.size, 9, none⟩) (Nat.le_refl _) _)
        | false =>
          have hgW := (hBh.block w.heap.size (by omega)).trans hg1
          have z0 : wh.cell? ⟨w1.heap.size, 0, none⟩ = some (.bool (decide (0 ≤ fns))) := by rw [cell_of_row _ _ _ _ _ _ hRh]; rfl
          have x0 : wh.cell? ⟨w.heap.size, 0, none⟩ = some (.bool false) := by rw [cell_of_row _ _ _ _ _ _ hgW]; rfl
          have z1 : wh.cell? ⟨w1.heap.size, 1, none⟩ = some (.bool (decide (0 ≤ fnc))) := by rw [cell_of_row _ _ _ _ _ _ hRh]; rfl
          have x1 : wh.cell? ⟨w.heap.size, 1, none⟩ = some (.bool false) := by rw [cell_of_row _ _ _ _ _ _ hgW]; rfl
          have z2 : wh.cell? ⟨w1.heap.size, 2, none⟩ = some (.bool (decide (0 ≤ fpr))) := by rw [cell_of_row _ _ _ _ _ _ hRh]; rfl
          have x2 : wh.cell? ⟨w.heap.size, 2, none⟩ = some (.bool false) := by rw [cell_of_row _ _ _ _ _ _ hgW]; rfl
          have z3 : wh.cell? ⟨w1.heap.size, 3, none⟩ = some (.bool (decide (0 ≤ fpu))) := by rw [cell_of_row _ _ _ _ _ _ hRh]; rfl
          have x3 : wh.cell? ⟨w.heap.size, 3, none⟩ = some (.bool false) := by rw [cell_of_row _ _ _ _ _ _ hgW]; rfl
          have z4 : wh.cell? ⟨w1.heap.size, 4, none⟩ = some (.bool true) := by rw [cell_of_row _ _ _ _ _ _ hRh]; rfl
          have x4 : wh.cell? ⟨w.heap.size, 4, none⟩ = some (.bool false) := by rw [cell_of_row _ _ _ _ _ _ hgW]; rfl
          have z5 : wh.cell? ⟨w1.heap.size, 5, none⟩ = some (.bool (decide (0 ≤ foc))) := by rw [cell_of_row _ _ _ _ _ _ hRh]; rfl
          have x5 : wh.cell? ⟨w.heap.size, 5, none⟩ = some (.bool false) := by rw [cell_of_row _ _ _ _ _ _ hgW]; rfl
          have z6 : wh.cell? ⟨w1.heap.size, 6, none⟩ = some (.int .i64 zma) := by rw [cell_of_row _ _ _ _ _ _ hRh]; rfl
          have x6 : wh.cell? ⟨w.heap.size, 6, none⟩ = some (.int .i64 0) := by rw [cell_of_row _ _ _ _ _ _ hgW]; rfl
          have z7 : wh.cell? ⟨w1.heap.size, 7, none⟩ = some (.int .i64 zsm) := by rw [cell_of_row _ _ _ _ _ _ hRh]; rfl
          have x7 : wh.cell? ⟨w.heap.size, 7, none⟩ = some (.int .i64 0) := by rw [cell_of_row _ _ _ _ _ _ hgW]; rfl
          have z8 : wh.cell? ⟨w1.heap.size, 8, none⟩ = some (.int .i64 zmf) := by rw [cell_of_row _ _ _ _ _ _ hRh]; rfl
          have x8 : wh.cell? ⟨w.heap.size, 8, none⟩ = some (.int .i64 0) := by rw [cell_of_row _ _ _ _ _ _ hgW]; rfl
          have z9 : wh.cell? ⟨w1.heap.size, 9, none⟩ = some (.int .i64 (-1)) := by rw [cell_of_row _ _ _ _ _ _ hRh]; rfl
          have x9 : wh.cell? ⟨w.heap.size, 9, none⟩ = some (.int .i64 0) := by rw [cell_of_row _ _ _ _ _ _ hgW]; rfl
          have xf : ∀ j, wh.frozen? ⟨w.heap.size, j, none⟩ = false := fun j => frozen_of_row _ _ _ _ _ hgW
          have HV := Lib.hid (show ctlV D false = .agg #[.bool (decide (0 ≤ fns)), .bool (decide (0 ≤ fnc)), .bool (decide (0 ≤ fpr)), .bool (decide (0 ≤ fpu)), .bool true, .bool (decide (0 ≤ foc)), .int .i64 zma, .int .i64 zsm, .int .i64 zmf, .int .i64 (-1)] by unfold ctlV; rw [← Kns.out, ← Knc.out, ← Kpr.out, ← Kpu.out, ← Kmu.out, ← Kpx.out, ← Koc.out, ← HZ1.out, ← HZ2.out, ← HZ3.out, HP.out]; simp [hmu])
          have HBF := Lib.hid (hB1.trans (hBh.mono hs1'))
          clear hgW
          go_wp2_with fail
          refine bodyPost_ret (v := ctlV D false) (by rw [HV.out]; simp [results, Tryd.results14, go_sem, x0, x1, x2, x3, x4, x5, x6, x7, x8, x9]) rfl ⟨?_, ?_⟩
          · unfold ctlT; rw [← show D = dirsOf (valuesOf L ccW) from HDD.out, ← show false = oldT L from HOLD.out]
          · exact ((((((((((HBF.out.setCell (p := ⟨w.heap.size, 0, none⟩) (Nat.le_refl _) _).setCell (p := ⟨w.heap.size, 1, none⟩) (Nat.le_refl _) _).setCell (p := ⟨w.heap.size, 2, none⟩) (Nat.le_refl _) _).setCell (p := ⟨w.heap.size, 3, none⟩) (Nat.le_refl _) _).setCell (p := ⟨w.heap.size, 4, none⟩) (Nat.le_refl _) _).setCell (p := ⟨w.heap.size, 5, none⟩) (Nat.le_refl _) _).setCell (p := ⟨w.heap.size, 6, none⟩) (Nat.le_refl _) _).setCell (p := ⟨w.heap.size, 7, none⟩) (Nat.le_refl _) _).setCell (p := ⟨w.heap.size, 8, none⟩) (Nat.le_refl _) _).setCell (p := ⟨w.heap.size, 9, none⟩) (Nat.le_refl _) _)
      · have hvi : (((valuesOf L ccW).length : Int) == 0) = false := by simpa using hv0
        have ho : old = false := by
          rw [HOLD.out]; unfold oldT
          cases hx : valuesOf L ccW with
          | nil => rw [hx] at hv0; exact absurd rfl hv0
          | cons x r => rfl
        subst ho
        have hgW := (hBv.block w.heap.size (by omega)).trans hg1
        have z0 : wv.cell? ⟨w1.heap.size, 0, none⟩ = some (.bool (decide (0 ≤ fns))) := by rw [cell_of_row _ _ _ _ _ _ hRv]; rfl
        have x0 : wv.cell? ⟨w.heap.size, 0, none⟩ = some (.bool false) := by rw [cell_of_row _ _ _ _ _ _ hgW]; rfl
        have z1 : wv.cell? ⟨w1.heap.size, 1, none⟩ = some (.bool (decide (0 ≤ fnc))) := by rw [cell_of_row _ _ _ _ _ _ hRv]; rfl
        have x1 : wv.cell? ⟨w.heap.size, 1, none⟩ = some (.bool false) := by rw [cell_of_row _ _ _ _ _ _ hgW]; rfl
        have z2 : wv.cell? ⟨w1.heap.size, 2, none⟩ = some (.bool (decide (0 ≤ fpr))) := by rw [cell_of_row _ _ _ _ _ _ hRv]; rfl
        have x2 : wv.cell? ⟨w.heap.size, 2, none⟩ = some (.bool false) := by rw [cell_of_row _ _ _ _ _ _ hgW]; rfl
        have z3 : wv.cell? ⟨w1.heap.size, 3, none⟩ = some (.bool (decide (0 ≤ fpu))) := by rw [cell_of_row _ _ _ _ _ _ hRv]; rfl
        have x3 : wv.cell? ⟨w.heap.size, 3, none⟩ = some (.bool false) := by rw [cell_of_row _ _ _ _ _ _ hgW]; rfl
        have z4 : wv.cell? ⟨w1.heap.size, 4, none⟩ = some (.bool true) := by rw [cell_of_row _ _ _ _ _ _ hRv]; rfl
        have x4 : wv.cell? ⟨w.heap.size, 4, none⟩ = some (.bool false) := by rw [cell_of_row _ _ _ _ _ _ hgW]; rfl
        have z5 : wv.cell? ⟨w1.heap.size, 5, none⟩ = some (.bool (decide (0 ≤ foc))) := by rw [cell_of_row _ _ _ _ _ _ hRv]; rfl
        have x5 : wv.cell? ⟨w.heap.size, 5, none⟩ = some (.bool false) := by rw [cell_of_row _ _ _ _ _ _ hgW]; rfl
        have z6 : wv.cell? ⟨w1.heap.size, 6, none⟩ = some (.int .i64 zma) := by rw [cell_of_row _ _ _ _ _ _ hRv]; rfl
        have x6 : wv.cell? ⟨w.heap.size, 6, none⟩ = some (.int .i64 0) := by rw [cell_of_row _ _ _ _ _ _ hgW]; rfl
        have z7 : wv.cell? ⟨w1.heap.size, 7, none⟩ = some (.int .i64 zsm) := by rw [cell_of_row _ _ _ _ _ _ hRv]; rfl
        have x7 : wv.cell? ⟨w.heap.size, 7, none⟩ = some (.int .i64 0) := by rw [cell_of_row _ _ _ _ _ _ hgW]; rfl
        have z8 : wv.cell? ⟨w1.heap.size, 8, none⟩ = some (.int .i64 zmf) := by rw [cell_of_row _ _ _ _ _ _ hRv]; rfl
        have x8 : wv.cell? ⟨w.heap.size, 8, none⟩ = some (.int .i64 0) := by rw [cell_of_row _ _ _ _ _ _ hgW]; rfl
        have z9 : wv.cell? ⟨w1.heap.size, 9, none⟩ = some (.int .i64 (-1)) := by rw [cell_of_row _ _ _ _ _ _ hRv]; rfl
        have x9 : wv.cell? ⟨w.heap.size, 9, none⟩ = some (.int .i64 0) := by rw [cell_of_row _ _ _ _ _ _ hgW]; rfl
        have xf : ∀ j, wv.frozen? ⟨w.heap.size, j, none⟩ = false := fun j => frozen_of_row _ _ _ _ _ hgW
        have HV := Lib.hid (show ctlV D false = .agg #[.bool (decide (0 ≤ fns)), .bool (decide (0 ≤ fnc)), .bool (decide (0 ≤ fpr)), .bool (decide (0 ≤ fpu)), .bool true, .bool (decide (0 ≤ foc)), .int .i64 zma, .int .i64 zsm, .int .i64 zmf, .int .i64 (-1)] by unfold ctlV; rw [← Kns.out, ← Knc.out, ← Kpr.out, ← Kpu.out, ← Kmu.out, ← Kpx.out, ← Koc.out, ← HZ1.out, ← HZ2.out, ← HZ3.out, HP.out]; simp [hmu])
        have HBF := Lib.hid (hB1.trans (hBv.mono hs1'))
        clear hgW
        go_wp2_with fail
        refine bodyPost_ret (v := ctlV D false) (by rw [HV.out]; simp [results, Tryd.results14, go_sem, x0, x1, x2, x3, x4, x5, x6, x7, x8, x9]) rfl ⟨?_, ?_⟩
        · unfold ctlT; rw [← show D = dirsOf (valuesOf L ccW) from HDD.out, ← show false = oldT L from HOLD.out]
        · exact ((((((((((HBF.out.setCell (p := ⟨w.heap.size, 0, none⟩) (Nat.le_refl _) _).setCell (p := ⟨w.heap.size, 1, none⟩) (Nat.le_refl _) _).setCell (p := ⟨w.heap.size, 2, none⟩) (Nat.le_refl _) _).setCell (p := ⟨w.heap.size, 3, none⟩) (Nat.le_refl _) _).setCell (p := ⟨w.heap.size, 4, none⟩) (Nat.le_refl _) _).setCell (p := ⟨w.heap.size, 5, none⟩) (Nat.le_refl _) _).setCell (p := ⟨w.heap.size, 6, none⟩) (Nat.le_refl _) _).setCell (p := ⟨w.heap.size, 7, none⟩) (Nat.le_refl _) _).setCell (p := ⟨w.heap.size, 8, none⟩) (Nat.le_refl _) _).setCell (p := ⟨w.heap.size, 9, none⟩) (Nat.le_refl _) _)
    · obtain rfl : fst = (ix : Int) := by rw [HST.out, q1]
      have hpos : (0 : Int) ≤ (ix : Int) := by omega
      obtain ⟨g, rfl, hc⟩ := HIN.out (by omega)
      have hc1 := hc _ _ (de_get D ix hix).2.1
      have hc2 := hc _ _ (de_get D ix hix).2.2
      have hgB : g < w1.heap.size := World.block_lt_of_cell? w1 _ hc1
      have e1 := (hB9.cell (p := ⟨g, ix * 3 + 1, none⟩) hgB).trans hc1
      have e2 := (hB9.cell (p := ⟨g, ix * 3 + 2, none⟩) hgB).trans hc2
      obtain ⟨y, hy⟩ : ∃ y : ByteArray, y = ⟨D[ix].2.1.toArray⟩ := ⟨_, rfl⟩
      have hyd : y.data.toList = D[ix].2.1 := by rw [hy]
      have hys : y.size ≤ 140737488351232 := by rw [← size_list, hyd]; exact HDS.out _ (List.getElem_mem hix)
      rw [← hy] at e1
      have HY := Lib.hid hyd
      have HQ := Lib.hid q2
      have k9 : w9.cell? ⟨w1.heap.size, 9, none⟩ = some (.int .i64 (-1)) := by rw [cell_of_row _ _ _ _ _ _ hR9]; rfl
      have kf9 : ∀ j, w9.frozen? ⟨w1.heap.size, j, none⟩ = false := fun j => frozen_of_row _ _ _ _ _ hR9
      have hB9s := hB9.setCell (p := ⟨w1.heap.size, 9, none⟩) (Nat.le_refl _) (.int .i64 2147483648)
      have hR9s : (w9.setCell ⟨w1.heap.size, 9, none⟩ (.int .i64 2147483648)).heap[w1.heap.size]? = some (.cells #[.bool (decide (0 ≤ fns)), .bool (decide (0 ≤ fnc)), .bool (decide (0 ≤ fpr)), .bool (decide (0 ≤ fpu)), .bool true, .bool (decide (0 ≤ foc)), .int .i64 zma, .int .i64 zsm, .int .i64 zmf, .int .i64 2147483648] 28 (0, 0)) := heap_setCell_same _ _ _ _ _ _ hR9
      clear hc hc1 hc2 hy hyd q1 q2
      cases hhs : D[ix].2.2 with
      | false =>
        rw [hhs] at e2
        have HP := Lib.hid (show patM D = 2147483648 by unfold patM; rw [HQ.out]; simp [hhs])
        clear hhs
        have hBw := hB1.trans ((hB9s).mono hs1')
        have hBz := (hB9s).size
        have hval := HRV.out (w9.setCell ⟨w1.heap.size, 9, none⟩ (.int .i64 2147483648)) hBw
        clear hBw
        go_wp2_with fail
        refine hval.mono ?_
        rintro e wv ⟨vv, rfl, hownv, hbv⟩
        have hbv' := hbv.mono hBz
        have hBv := (hB9s).trans hbv'
        have hRv := (hbv.block w1.heap.size (Array.getElem?_eq_some_iff.1 (hR9s)).1).trans (hR9s)
        obtain ⟨pz, cz, rfl, _, _, _, _⟩ := hownv.shape rfl
        clear hval hownv hbv hbv' hBz
        by_cases hv0 : (valuesOf L ccW).length = 0
        · have hvi : (((valuesOf L ccW).length : Int) == 0) = true := by rw [hv0]; rfl
          have hhas := HRH.out wv (hB1.trans (hBv.mono hs1'))
          have ho : old = (tokensOf L pgW).contains ncW := by
            rw [HOLD.out]; unfold oldT
            rw [List.isEmpty_iff.2 (List.length_eq_zero_iff.1 hv0), Bool.true_and]
          rw [← ho] at hhas
          have hBvs := hBv.size
          clear ho
          go_wp2_with fail
          refine hhas.mono ?_
          rintro e wh ⟨rfl, hbh⟩
          have hBh := hBv.trans (hbh.mono hBvs)
          have hRh := (hbh.block w1.heap.size (Array.getElem?_eq_some_iff.1 hRv).1).trans hRv
          clear hhas hbh hBv hRv
          cases old with
          | true =>
            have k1 : wh.cell? ⟨w1.heap.size, 1, none⟩ = some (.bool (decide (0 ≤ fnc))) := by rw [cell_of_row _ _ _ _ _ _ hRh]; rfl
            have kf : ∀ j, wh.frozen? ⟨w1.heap.size, j, none⟩ = false := fun j => frozen_of_row _ _ _ _ _ hRh
            have hBs := hBh.setCell (p := ⟨w1.heap.size, 1, none⟩) (Nat.le_refl _) (.bool true)
            have hRs : (wh.setCell ⟨w1.heap.size, 1, none⟩ (.bool true)).heap[w1.heap.size]? = some (.cells #[.bool (decide (0 ≤ fns)), .bool true, .bool (decide (0 ≤ fpr)), .bool (decide (0 ≤ fpu)), .bool true, .bool (decide (0 ≤ foc)), .int .i64 zma, .int .i64 zsm, .int .i64 zmf, .int .i64 2147483648] 28 (0, 0)) := heap_setCell_same _ _ _ _ _ _ hRh
            have hgW := (hBs.block w.heap.size (by omega)).trans hg1
            have z0 : (wh.setCell ⟨w1.heap.size, 1, none⟩ (.bool true)).cell? ⟨w1.heap.size, 0, none⟩ = some (.bool (decide (0 ≤ fns))) := by rw [cell_of_row _ _ _ _ _ _ hRs]; rfl
            have x0 : (wh.setCell ⟨w1.heap.size, 1, none⟩ (.bool true)).cell? ⟨w.heap.size, 0, none⟩ = some (.bool false) := by rw [cell_of_row _ _ _ _ _ _ hgW]; rfl
            have z1 : (wh.setCell ⟨w1.heap.size, 1, none⟩ (.bool true)).cell? ⟨w1.heap.size, 1, none⟩ = some (.bool true) := by rw [cell_of_row _ _ _ _ _ _ hRs]; rfl
            have x1 : (wh.setCell ⟨w1.heap.size, 1, none⟩ (.bool true)).cell? ⟨w.heap.size, 1, none⟩ = some (.bool false) := by rw [cell_of_row _ _ _ _ _ _ hgW]; rfl
            have z2 : (wh.setCell ⟨w1.heap.size, 1, none⟩ (.bool true)).cell? ⟨w1.heap.size, 2, none⟩ = some (.bool (decide (0 ≤ fpr))) := by rw [cell_of_row _ _ _ _ _ _ hRs]; rfl
            have x2 : (wh.setCell ⟨w1.heap.size, 1, none⟩ (.bool true)).cell? ⟨w.heap.size, 2, none⟩ = some (.bool false) := by rw [cell_of_row _ _ _ _ _ _ hgW]; rfl
            have z3 : (wh.setCell ⟨w1.heap.size, 1, none⟩ (.bool true)).cell? ⟨w1.heap.size, 3, none⟩ = some (.bool (decide (0 ≤ fpu))) := by rw [cell_of_row _ _ _ _ _ _ hRs]; rfl
            have x3 : (wh.setCell ⟨w1.heap.size, 1, none⟩ (.bool true)).cell? ⟨w.heap.size, 3, none⟩ = some (.bool false) := by rw [cell_of_row _ _ _ _ _ _ hgW]; rfl
            have z4 : (wh.setCell ⟨w1.heap.size, 1, none⟩ (.bool true)).cell? ⟨w1.heap.size, 4, none⟩ = some (.bool true) := by rw [cell_of_row _ _ _ _ _ _ hRs]; rfl
            have x4 : (wh.setCell ⟨w1.heap.size, 1, none⟩ (.bool true)).cell? ⟨w.heap.size, 4, none⟩ = some (.bool false) := by rw [cell_of_row _ _ _ _ _ _ hgW]; rfl
            have z5 : (wh.setCell ⟨w1.heap.size, 1, none⟩ (.bool true)).cell? ⟨w1.heap.size, 5, none⟩ = some (.bool (decide (0 ≤ foc))) := by rw [cell_of_row _ _ _ _ _ _ hRs]; rfl
            have x5 : (wh.setCell ⟨w1.heap.size, 1, none⟩ (.bool true)).cell? ⟨w.heap.size, 5, none⟩ = some (.bool false) := by rw [cell_of_row _ _ _ _ _ _ hgW]; rfl
            have z6 : (wh.setCell ⟨w1.heap.size, 1, none⟩ (.bool true)).cell? ⟨w1.heap.size, 6, none⟩ = some (.int .i64 zma) := by rw [cell_of_row _ _ _ _ _ _ hRs]; rfl
            have x6 : (wh.setCell ⟨w1.heap.size, 1, none⟩ (.bool true)).cell? ⟨w.heap.size, 6, none⟩ = some (.int .i64 0) := by rw [cell_of_row _ _ _ _ _ _ hgW]; rfl
            have z7 : (wh.setCell ⟨w1.heap.size, 1, none⟩ (.bool true)).cell? ⟨w1.heap.size, 7, none⟩ = some (.int .i64 zsm) := by rw [cell_of_row _ _ _ _ _ _ hRs]; rfl
            have x7 : (wh.setCell ⟨w1.heap.size, 1, none⟩ (.bool true)).cell? ⟨w.heap.size, 7, none⟩ = some (.int .i64 0) := by rw [cell_of_row _ _ _ _ _ _ hgW]; rfl
            have z8 : (wh.setCell ⟨w1.heap.size, 1, none⟩ (.bool true)).cell? ⟨w1.heap.size, 8, none⟩ = some (.int .i64 zmf) := by rw [cell_of_row _ _ _ _ _ _ hRs]; rfl
            have x8 : (wh.setCell ⟨w1.heap.size, 1, none⟩ (.bool true)).cell? ⟨w.heap.size, 8, none⟩ = some (.int .i64 0) := by rw [cell_of_row _ _ _ _ _ _ hgW]; rfl
            have z9 : (wh.setCell ⟨w1.heap.size, 1, none⟩ (.bool true)).cell? ⟨w1.heap.size, 9, none⟩ = some (.int .i64 2147483648) := by rw [cell_of_row _ _ _ _ _ _ hRs]; rfl
            have x9 : (wh.setCell ⟨w1.heap.size, 1, none⟩ (.bool true)).cell? ⟨w.heap.size, 9, none⟩ = some (.int .i64 0) := by rw [cell_of_row _ _ _ _ _ _ hgW]; rfl
            have xf : ∀ j, (wh.setCell ⟨w1.heap.size, 1, none⟩ (.bool true)).frozen? ⟨w.heap.size, j, none⟩ = false := fun j => frozen_of_row _ _ _ _ _ hgW
            have HV := Lib.hid (show ctlV D true = .agg #[.bool (decide (0 ≤ fns)), .bool true, .bool (decide (0 ≤ fpr)), .bool (decide (0 ≤ fpu)), .bool true, .bool (decide (0 ≤ foc)), .int .i64 zma, .int .i64 zsm, .int .i64 zmf, .int .i64 2147483648] by unfold ctlV; rw [← Kns.out, ← Knc.out, ← Kpr.out, ← Kpu.out, ← Kmu.out, ← Kpx.out, ← Koc.out, ← HZ1.out, ← HZ2.out, ← HZ3.out, HP.out]; simp [hmu])
            have HBF := Lib.hid (hB1.trans (hBs.mono hs1'))
            clear hgW
            go_wp2_with fail
            refine bodyPost_ret (v := ctlV D true) (by rw [HV.out]; simp [results, Tryd.results14, go_sem, x0, x1, x2, x3, x4, x5, x6, x7, x8, x9]) rfl ⟨?_, ?_⟩
            · unfold ctlT; rw [← show D = dirsOf (valuesOf L ccW) from HDD.out, ← show true = oldT L from HOLD.out]
            · exact ((((((((((HBF.out.setCell (p := ⟨w.heap.size, 0, none⟩) (Nat.le_refl _) _).setCell (p := ⟨w.heap.size, 1, none⟩) (Nat.le_refl _) _).setCell (p := ⟨w.heap.size, 2, none⟩) (Nat.le_refl _) _).setCell (p := ⟨w.heap.size, 3, none⟩) (Nat.le_refl _) _).setCell (p := ⟨w.heap.size, 4, none⟩) (Nat.le_refl _) _).setCell (p := ⟨w.heap.size, 5, none⟩) (Nat.le_refl _) _).setCell (p := ⟨w.heap.size, 6, none⟩) (Nat.le_refl _) _).setCell (p := ⟨w.heap.size, 7, none⟩) (Nat.le_refl _) _).setCell (p := ⟨w.heap.size, 8, none⟩) (Nat.le_refl _) _).setCell (p := ⟨w.heap.size, 9, none⟩) (Nat.le_refl _) _)
          | false =>
            have hgW := (hBh.block w.heap.size (by omega)).trans hg1
            have z0 : wh.cell? ⟨w1.heap.size, 0, none⟩ = some (.bool (decide (0 ≤ fns))) := by rw [cell_of_row _ _ _ _ _ _ hRh]; rfl
            have x0 : wh.cell? ⟨w.heap.size, 0, none⟩ = some (.bool false) := by rw [cell_of_row _ _ _ _ _ _ hgW]; rfl
            have z1 : wh.cell? ⟨w1.heap.size, 1, none⟩ = some (.bool (decide (0 ≤ fnc))) := by rw [cell_of_row _ _ _ _ _ _ hRh]; rfl
            have x1 : wh.cell? ⟨w.heap.size, 1, none⟩ = some (.bool false) := by rw [cell_of_row _ _ _ _ _ _ hgW]; rfl
            have z2 : wh.cell? ⟨w1.heap.size, 2, none⟩ = some (.bool (decide (0 ≤ fpr))) := by rw [cell_of_row _ _ _ _ _ _ hRh]; rfl
            have x2 : wh.cell? ⟨w.heap.size, 2, none⟩ = some (.bool false) := by rw [cell_of_row _ _ _ _ _ _ hgW]; rfl
            have z3 : wh.cell? ⟨w1.heap.size, 3, none⟩ = some (.bool (decide (0 ≤ fpu))) := by rw [cell_of_row _ _ _ _ _ _ hRh]; rfl
            have x3 : wh.cell? ⟨w.heap.size, 3, none⟩ = some (.bool false) := by rw [cell_of_row _ _ _ _ _ _ hgW]; rfl
            have z4 : wh.cell? ⟨w1.heap.size, 4, none⟩ = some (.bool true) := by rw [cell_of_row _ _ _ _ _ _ hRh]; rfl
            have x4 : wh.cell? ⟨w.heap.size, 4, none⟩ = some (.bool false) := by rw [cell_of_row _ _ _ _ _ _ hgW]; rfl
            have z5 : wh.cell? ⟨w1.heap.size, 5, none⟩ = some (.bool (decide (0 ≤ foc))) := by rw [cell_of_row _ _ _ _ _ _ hRh]; rfl
            have x5 : wh.cell? ⟨w.heap.size, 5, none⟩ = some (.bool false) := by rw [cell_of_row _ _ _ _ _ _ hgW]; rfl
            have z6 : wh.cell? ⟨w1.heap.size, 6, none⟩ = some (.int .i64 zma) := by rw [cell_of_row _ _ _ _ _ _ hRh]; rfl
            have x6 : wh.cell? ⟨w.heap.size, 6, none⟩ = some (.int .i64 0) := by rw [cell_of_row _ _ _ _ _ _ hgW]; rfl
            have z7 : wh.cell? ⟨w1.heap.size, 7, none⟩ = some (.int .i64 zsm) := by rw [cell_of_row _ _ _ _ _ _ hRh]; rfl
            have x7 : wh.cell? ⟨w.heap.size, 7, none⟩ = some (.int .i64 0) := by rw [cell_of_row _ _ _ _ _ _ hgW]; rfl
            have z8 : wh.cell? ⟨w1.heap.size, 8, none⟩ = some (.int .i64 zmf) := by rw [cell_of_row _ _ _ _ _ _ hRh]; rfl
            have x8 : wh.cell? ⟨w.heap.size, 8, none⟩ = some (.int .i64 0) := by rw [cell_of_row _ _ _ _ _ _ hgW]; rfl
            have z9 : wh.cell? ⟨w1.heap.size, 9, none⟩ = some (.int .i64 2147483648) := by rw [cell_of_row _ _ _ _ _ _ hRh]; rfl
            have x9 : wh.cell? ⟨w.heap.size, 9, none⟩ = some (.int .i64 0) := by rw [cell_of_row _ _ _ _ _ _ hgW]; rfl
            have xf : ∀ j, wh.frozen? ⟨w.heap.size, j, none⟩ = false := fun j => frozen_of_row _ _ _ _ _ hgW
            have HV := Lib.hid (show ctlV D false = .agg #[.bool (decide (0 ≤ fns)), .bool (decide (0 ≤ fnc)), .bool (decide (0 ≤ fpr)), .bool (decide (0 ≤ fpu)), .bool true, .bool (decide (0 ≤ foc)), .int .i64 zma, .int .i64 zsm, .int .i64 zmf, .int .i64 2147483648] by unfold ctlV; rw [← Kns.out, ← Knc.out, ← Kpr.out, ← Kpu.out, ← Kmu.out, ← Kpx.out, ← Koc.out, ← HZ1.out, ← HZ2.out, ← HZ3.out, HP.out]; simp [hmu])
            have HBF := Lib.hid (hB1.trans (hBh.mono hs1'))
            clear hgW
            go_wp2_with fail
            refine bodyPost_ret (v := ctlV D false) (by rw [HV.out]; simp [results, Tryd.results14, go_sem, x0, x1, x2, x3, x4, x5, x6, x7, x8, x9]) rfl ⟨?_, ?_⟩
            · unfold ctlT; rw [← show D = dirsOf (valuesOf L ccW) from HDD.out, ← show false = oldT L from HOLD.out]
            · exact ((((((((((HBF.out.setCell (p := ⟨w.heap.size, 0, none⟩) (Nat.le_refl _) _).setCell (p := ⟨w.heap.size, 1, none⟩) (Nat.le_refl _) _).setCell (p := ⟨w.heap.size, 2, none⟩) (Nat.le_refl _) _).setCell (p := ⟨w.heap.size, 3, none⟩) (Nat.le_refl _) _).setCell (p := ⟨w.heap.size, 4, none⟩) (Nat.le_refl _) _).setCell (p := ⟨w.heap.size, 5, none⟩) (Nat.le_refl _) _).setCell (p := ⟨w.heap.size, 6, none⟩) (Nat.le_refl _) _).setCell (p := ⟨w.heap.size, 7, none⟩) (Nat.le_refl _) _).setCell (p := ⟨w.heap.size, 8, none⟩) (Nat.le_refl _) _).setCell (p := ⟨w.heap.size, 9, none⟩) (Nat.le_refl _) _)
        · have hvi : (((valuesOf L ccW).length : Int) == 0) = false := by simpa using hv0
          have ho : old = false := by
            rw [HOLD.out]; unfold oldT
            cases hx : valuesOf L ccW with
            | nil => rw [hx] at hv0; exact absurd rfl hv0
            | cons x r => rfl
          subst ho
          have hgW := (hBv.block w.heap.size (by omega)).trans hg1
          have z0 : wv.cell? ⟨w1.heap.size, 0, none⟩ = some (.bool (decide (0 ≤ fns))) := by rw [cell_of_row _ _ _ _ _ _ hRv]; rfl
          have x0 : wv.cell? ⟨w.heap.size, 0, none⟩ = some (.bool false) := by rw [cell_of_row _ _ _ _ _ _ hgW]; rfl
          have z1 : wv.cell? ⟨w1.heap.size, 1, none⟩ = some (.bool (decide (0 ≤ fnc))) := by rw [cell_of_row _ _ _ _ _ _ hRv]; rfl
          have x1 : wv.cell? ⟨w.heap.size, 1, none⟩ = some (.bool false) := by rw [cell_of_row _ _ _ _ _ _ hgW]; rfl
          have z2 : wv.cell? ⟨w1.heap.size, 2, none⟩ = some (.bool (decide (0 ≤ fpr))) := by rw [cell_of_row _ _ _ _ _ _ hRv]; rfl
          have x2 : wv.cell? ⟨w.heap.size, 2, none⟩ = some (.bool false) := by rw [cell_of_row _ _ _ _ _ _ hgW]; rfl
          have z3 : wv.cell? ⟨w1.heap.size, 3, none⟩ = some (.bool (decide (0 ≤ fpu))) := by rw [cell_of_row _ _ _ _ _ _ hRv]; rfl
          have x3 : wv.cell? ⟨w.heap.size, 3, none⟩ = some (.bool false) := by rw [cell_of_row _ _ _ _ _ _ hgW]; rfl
          have z4 : wv.cell? ⟨w1.heap.size, 4, none⟩ = some (.bool true) := by rw [cell_of_row _ _ _ _ _ _ hRv]; rfl
          have x4 : wv.cell? ⟨w.heap.size, 4, none⟩ = some (.bool false) := by rw [cell_of_row _ _ _ _ _ _ hgW]; rfl
          have z5 : wv.cell? ⟨w1.heap.size, 5, none⟩ = some (.bool (decide (0 ≤ foc))) := by rw [cell_of_row _ _ _ _ _ _ hRv]; rfl
          have x5 : wv.cell? ⟨w.heap.size, 5, none⟩ = some (.bool false) := by rw [cell_of_row _ _ _ _ _ _ hgW]; rfl
          have z6 : wv.cell? ⟨w1.heap.size, 6, none⟩ = some (.int .i64 zma) := by rw [cell_of_row _ _ _ _ _ _ hRv]; rfl
          have x6 : wv.cell? ⟨w.heap.size, 6, none⟩ = some (.int .i64 0) := by rw [cell_of_row _ _ _ _ _ _ hgW]; rfl
          have z7 : wv.cell? ⟨w1.heap.size, 7, none⟩ = some (.int .i64 zsm) := by rw [cell_of_row _ _ _ _ _ _ hRv]; rfl
          have x7 : wv.cell? ⟨w.heap.size, 7, none⟩ = some (.int .i64 0) := by rw [cell_of_row _ _ _ _ _ _ hgW]; rfl
          have z8 : wv.cell? ⟨w1.heap.size, 8, none⟩ = some (.int .i64 zmf) := by rw [cell_of_row _ _ _ _ _ _ hRv]; rfl
          have x8 : wv.cell? ⟨w.heap.size, 8, none⟩ = some (.int .i64 0) := by rw [cell_of_row _ _ _ _ _ _ hgW]; rfl
          have z9 : wv.cell? ⟨w1.heap.size, 9, none⟩ = some (.int .i64 2147483648) := by rw [cell_of_row _ _ _ _ _ _ hRv]; rfl
          have x9 : wv.cell? ⟨w.heap.size, 9, none⟩ = some (.int .i64 0) := by rw [cell_of_row _ _ _ _ _ _ hgW]; rfl
          have xf : ∀ j, wv.frozen? ⟨w.heap.size, j, none⟩ = false := fun j => frozen_of_row _ _ _ _ _ hgW
          have HV := Lib.hid (show ctlV D false = .agg #[.bool (decide (0 ≤ fns)), .bool (decide (0 ≤ fnc)), .bool (decide (0 ≤ fpr)), .bool (decide (0 ≤ fpu)), .bool true, .bool (decide (0 ≤ foc)), .int .i64 zma, .int .i64 zsm, .int .i64 zmf, .int .i64 2147483648] by unfold ctlV; rw [← Kns.out, ← Knc.out, ← Kpr.out, ← Kpu.out, ← Kmu.out, ← Kpx.out, ← Koc.out, ← HZ1.out, ← HZ2.out, ← HZ3.out, HP.out]; simp [hmu])
          have HBF := Lib.hid (hB1.trans (hBv.mono hs1'))
          clear hgW
          go_wp2_with fail
          refine bodyPost_ret (v := ctlV D false) (by rw [HV.out]; simp [results, Tryd.results14, go_sem, x0, x1, x2, x3, x4, x5, x6, x7, x8, x9]) rfl ⟨?_, ?_⟩
          · unfold ctlT; rw [← show D = dirsOf (valuesOf L ccW) from HDD.out, ← show false = oldT L from HOLD.out]
          · exact ((((((((((HBF.out.setCell (p := ⟨w.heap.size, 0, none⟩) (Nat.le_refl _) _).setCell (p := ⟨w.heap.size, 1, none⟩) (Nat.le_refl _) _).setCell (p := ⟨w.heap.size, 2, none⟩) (Nat.le_refl _) _).setCell (p := ⟨w.heap.size, 3, none⟩) (Nat.le_refl _) _).setCell (p := ⟨w.heap.size, 4, none⟩) (Nat.le_refl _) _).setCell (p := ⟨w.heap.size, 5, none⟩) (Nat.le_refl _) _).setCell (p := ⟨w.heap.size, 6, none⟩) (Nat.le_refl _) _).setCell (p := ⟨w.heap.size, 7, none⟩) (Nat.le_refl _) _).setCell (p := ⟨w.heap.size, 8, none⟩) (Nat.le_refl _) _).setCell (p := ⟨w.heap.size, 9, none⟩) (Nat.le_refl _) _)
      | true =>
        rw [hhs] at e2
        obtain ⟨zz, hzz⟩ : ∃ z, z = secT y.data.toList := ⟨_, rfl⟩
        have HP := Lib.hid (show patM D = zz by unfold patM; rw [HQ.out, hzz, HY.out]; simp [hhs])
        have hsec := refSeconds_any y (w9.setCell ⟨w1.heap.size, 9, none⟩ (.int .i64 2147483648)) hys
        rw [← hzz] at hsec
        clear hhs hzz
        go_wp2_with fail
        refine hsec.mono ?_
        rintro e wq ⟨rfl, rfl⟩
        clear hsec
        have hB10s := hB9s.setCell (p := ⟨w1.heap.size, 9, none⟩) (Nat.le_refl _) (.int .i64 zz)
        have hR10s : ((w9.setCell ⟨w1.heap.size, 9, none⟩ (.int .i64 2147483648)).setCell ⟨w1.heap.size, 9, none⟩ (.int .i64 zz)).heap[w1.heap.size]? = some (.cells #[.bool (decide (0 ≤ fns)), .bool (decide (0 ≤ fnc)), .bool (decide (0 ≤ fpr)), .bool (decide (0 ≤ fpu)), .bool true, .bool (decide (0 ≤ foc)), .int .i64 zma, .int .i64 zsm, .int .i64 zmf, .int .i64 zz] 28 (0, 0)) := heap_setCell_same _ _ _ _ _ _ hR9s
        have hBw := hB1.trans ((hB10s).mono hs1')
        have hBz := (hB10s).size
        have hval := HRV.out ((w9.setCell ⟨w1.heap.size, 9, none⟩ (.int .i64 2147483648)).setCell ⟨w1.heap.size, 9, none⟩ (.int .i64 zz)) hBw
        clear hBw
        go_wp2_with fail
        refine hval.mono ?_
        rintro e wv ⟨vv, rfl, hownv, hbv⟩
        have hbv' := hbv.mono hBz
        have hBv := (hB10s).trans hbv'
        have hRv := (hbv.block w1.heap.size (Array.getElem?_eq_some_iff.1 (hR10s)).1).trans (hR10s)
        obtain ⟨pz, cz, rfl, _, _, _, _⟩ := hownv.shape rfl
        clear hval hownv hbv hbv' hBz
        by_cases hv0 : (valuesOf L ccW).length = 0
        · have hvi : (((valuesOf L ccW).length : Int) == 0) = true := by rw [hv0]; rfl
          have hhas := HRH.out wv (hB1.trans (hBv.mono hs1'))
          have ho : old = (tokensOf L pgW).contains ncW := by
            rw [HOLD.out]; unfold oldT
            rw [List.isEmpty_iff.2 (List.length_eq_zero_iff.1 hv0), Bool.true_and]
          rw [← ho] at hhas
          have hBvs := hBv.size
          clear ho
          go_wp2_with fail
          refine hhas.mono ?_
          rintro e wh ⟨rfl, hbh⟩
          have hBh := hBv.trans (hbh.mono hBvs)
          have hRh := (hbh.block w1.heap.size (Array.getElem?_eq_some_iff.1 hRv).1).trans hRv
          clear hhas hbh hBv hRv
          cases old with
          | true =>
            have k1 : wh.cell? ⟨w1.heap.size, 1, none⟩ = some (.bool (decide (0 ≤ fnc))) := by rw [cell_of_row _ _ _ _ _ _ hRh]; rfl
            have kf : ∀ j, wh.frozen? ⟨w1.heap.size, j, none⟩ = false := fun j => frozen_of_row _ _ _ _ _ hRh
            have hBs := hBh.setCell (p := ⟨w1.heap.size, 1, none⟩) (Nat.le_refl _) (.bool true)
            have hRs : (wh.setCell ⟨w1.heap.size, 1, none⟩ (.bool true)).heap[w1.heap.size]? = some (.cells #[.bool (decide (0 ≤ fns)), .bool true, .bool (decide (0 ≤ fpr)), .bool (decide (0 ≤ fpu)), .bool true, .bool (decide (0 ≤ foc)), .int .i64 zma, .int .i64 zsm, .int .i64 zmf, .int .i64 zz] 28 (0, 0)) := heap_setCell_same _ _ _ _ _ _ hRh
            have hgW := (hBs.block w.heap.size (by omega)).trans hg1
            have z0 : (wh.setCell ⟨w1.heap.size, 1, none⟩ (.bool true)).cell? ⟨w1.heap.size, 0, none⟩ = some (.bool (decide (0 ≤ fns))) := by rw [cell_of_row _ _ _ _ _ _ hRs]; rfl
            have x0 : (wh.setCell ⟨w1.heap.size, 1, none⟩ (.bool true)).cell? ⟨w.heap.size, 0, none⟩ = some (.bool false) := by rw [cell_of_row _ _ _ _ _ _ hgW]; rfl
            have z1 : (wh.setCell ⟨w1.heap.size, 1, none⟩ (.bool true)).cell? ⟨w1.heap.size, 1, none⟩ = some (.bool true) := by rw [cell_of_row _ _ _ _ _ _ hRs]; rfl
            have x1 : (wh.setCell ⟨w1.heap.size, 1, none⟩ (.bool true)).cell? ⟨w.heap.size, 1, none⟩ = some (.bool false) := by rw [cell_of_row _ _ _ _ _ _ hgW]; rfl
            have z2 : (wh.setCell ⟨w1.heap.size, 1, none⟩ (.bool true)).cell? ⟨w1.heap.size, 2, none⟩ = some (.bool (decide (0 ≤ fpr))) := by rw [cell_of_row _ _ _ _ _ _ hRs]; rfl
            have x2 : (wh.setCell ⟨w1.heap.size, 1, none⟩ (.bool true)).cell? ⟨w.heap.size, 2, none⟩ = some (.bool false) := by rw [cell_of_row _ _ _ _ _ _ hgW]; rfl
            have z3 : (wh.setCell ⟨w1.heap.size, 1, none⟩ (.bool true)).cell? ⟨w1.heap.size, 3, none⟩ = some (.bool (decide (0 ≤ fpu))) := by rw [cell_of_row _ _ _ _ _ _ hRs]; rfl
            have x3 : (wh.setCell ⟨w1.heap.size, 1, none⟩ (.bool true)).cell? ⟨w.heap.size, 3, none⟩ = some (.bool false) := by rw [cell_of_row _ _ _ _ _ _ hgW]; rfl
            have z4 : (wh.setCell ⟨w1.heap.size, 1, none⟩ (.bool true)).cell? ⟨w1.heap.size, 4, none⟩ = some (.bool true) := by rw [cell_of_row _ _ _ _ _ _ hRs]; rfl
            have x4 : (wh.setCell ⟨w1.heap.size, 1, none⟩ (.bool true)).cell? ⟨w.heap.size, 4, none⟩ = some (.bool false) := by rw [cell_of_row _ _ _ _ _ _ hgW]; rfl
            have z5 : (wh.setCell ⟨w1.heap.size, 1, none⟩ (.bool true)).cell? ⟨w1.heap.size, 5, none⟩ = some (.bool (decide (0 ≤ foc))) := by rw [cell_of_row _ _ _ _ _ _ hRs]; rfl
            have x5 : (wh.setCell ⟨w1.heap.size, 1, none⟩ (.bool true)).cell? ⟨w.heap.size, 5, none⟩ = some (.bool false) := by rw [cell_of_row _ _ _ _ _ _ hgW]; rfl
            have z6 : (wh.setCell ⟨w1.heap.size, 1, none⟩ (.bool true)).cell? ⟨w1.heap.size, 6, none⟩ = some (.int .i64 zma) := by rw [cell_of_row _ _ _ _ _ _ hRs]; rfl
            have x6 : (wh.setCell ⟨w1.heap.size, 1, none⟩ (.bool true)).cell? ⟨w.heap.size, 6, none⟩ = some (.int .i64 0) := by rw [cell_of_row _ _ _ _ _ _ hgW]; rfl
            have z7 : (wh.setCell ⟨w1.heap.size, 1, none⟩ (.bool true)).cell? ⟨w1.heap.size, 7, none⟩ = some (.int .i64 zsm) := by rw [cell_of_row _ _ _ _ _ _ hRs]; rfl
            have x7 : (wh.setCell ⟨w1.heap.size, 1, none⟩ (.bool true)).cell? ⟨w.heap.size, 7, none⟩ = some (.int .i64 0) := by rw [cell_of_row _ _ _ _ _ _ hgW]; rfl
            have z8 : (wh.setCell ⟨w1.heap.size, 1, none⟩ (.bool true)).cell? ⟨w1.heap.size, 8, none⟩ = some (.int .i64 zmf) := by rw [cell_of_row _ _ _ _ _ _ hRs]; rfl
            have x8 : (wh.setCell ⟨w1.heap.size, 1, none⟩ (.bool true)).cell? ⟨w.heap.size, 8, none⟩ = some (.int .i64 0) := by rw [cell_of_row _ _ _ _ _ _ hgW]; rfl
            have z9 : (wh.setCell ⟨w1.heap.size, 1, none⟩ (.bool true)).cell? ⟨w1.heap.size, 9, none⟩ = some (.int .i64 zz) := by rw [cell_of_row _ _ _ _ _ _ hRs]; rfl
            have x9 : (wh.setCell ⟨w1.heap.size, 1, none⟩ (.bool true)).cell? ⟨w.heap.size, 9, none⟩ = some (.int .i64 0) := by rw [cell_of_row _ _ _ _ _ _ hgW]; rfl
            have xf : ∀ j, (wh.setCell ⟨w1.heap.size, 1, none⟩ (.bool true)).frozen? ⟨w.heap.size, j, none⟩ = false := fun j => frozen_of_row _ _ _ _ _ hgW
            have HV := Lib.hid (show ctlV D true = .agg #[.bool (decide (0 ≤ fns)), .bool true, .bool (decide (0 ≤ fpr)), .bool (decide (0 ≤ fpu)), .bool true, .bool (decide (0 ≤ foc)), .int .i64 zma, .int .i64 zsm, .int .i64 zmf, .int .i64 zz] by unfold ctlV; rw [← Kns.out, ← Knc.out, ← Kpr.out, ← Kpu.out, ← Kmu.out, ← Kpx.out, ← Koc.out, ← HZ1.out, ← HZ2.out, ← HZ3.out, HP.out]; simp [hmu])
            have HBF := Lib.hid (hB1.trans (hBs.mono hs1'))
            clear hgW
            go_wp2_with fail
            refine bodyPost_ret (v := ctlV D true) (by rw [HV.out]; simp [results, Tryd.results14, go_sem, x0, x1, x2, x3, x4, x5, x6, x7, x8, x9]) rfl ⟨?_, ?_⟩
            · unfold ctlT; rw [← show D = dirsOf (valuesOf L ccW) from HDD.out, ← show true = oldT L from HOLD.out]
            · exact ((((((((((HBF.out.setCell (p := ⟨w.heap.size, 0, none⟩) (Nat.le_refl _) _).setCell (p := ⟨w.heap.size, 1, none⟩) (Nat.le_refl _) _).setCell (p := ⟨w.heap.size, 2, none⟩) (Nat.le_refl _) _).setCell (p := ⟨w.heap.size, 3, none⟩) (Nat.le_refl _) _).setCell (p := ⟨w.heap.size, 4, none⟩) (Nat.le_refl _) _).setCell (p := ⟨w.heap.size, 5, none⟩) (Nat.le_refl _) _).setCell (p := ⟨w.heap.size, 6, none⟩) (Nat.le_refl _) _).setCell (p := ⟨w.heap.size, 7, none⟩) (Nat.le_refl _) _).setCell (p := ⟨w.heap.size, 8, none⟩) (Nat.le_refl _) _).setCell (p := ⟨w.heap.size, 9, none⟩) (Nat.le_refl _) _)
          | false =>
            have hgW := (hBh.block w.heap.size (by omega)).trans hg1
            have z0 : wh.cell? ⟨w1.heap.size, 0, none⟩ = some (.bool (decide (0 ≤ fns))) := by rw [cell_of_row _ _ _ _ _ _ hRh]; rfl
            have x0 : wh.cell? ⟨w.heap.size, 0, none⟩ = some (.bool false) := by rw [cell_of_row _ _ _ _ _ _ hgW]; rfl
            have z1 : wh.cell? ⟨w1.heap.size, 1, none⟩ = some (.bool (decide (0 ≤ fnc))) := by rw [cell_of_row _ _ _ _ _ _ hRh]; rfl
            have x1 : wh.cell? ⟨w.heap.size, 1, none⟩ = some (.bool false) := by rw [cell_of_row _ _ _ _ _ _ hgW]; rfl
            have z2 : wh.cell? ⟨w1.heap.size, 2, none⟩ = some (.bool (decide (0 ≤ fpr))) := by rw [cell_of_row _ _ _ _ _ _ hRh]; rfl
            have x2 : wh.cell? ⟨w.heap.size, 2, none⟩ = some (.bool false) := by rw [cell_of_row _ _ _ _ _ _ hgW]; rfl
            have z3 : wh.cell? ⟨w1.heap.size, 3, none⟩ = some (.bool (decide (0 ≤ fpu))) := by rw [cell_of_row _ _ _ _ _ _ hRh]; rfl
            have x3 : wh.cell? ⟨w.heap.size, 3, none⟩ = some (.bool false) := by rw [cell_of_row _ _ _ _ _ _ hgW]; rfl
            have z4 : wh.cell? ⟨w1.heap.size, 4, none⟩ = some (.bool true) := by rw [cell_of_row _ _ _ _ _ _ hRh]; rfl
            have x4 : wh.cell? ⟨w.heap.size, 4, none⟩ = some (.bool false) := by rw [cell_of_row _ _ _ _ _ _ hgW]; rfl
            have z5 : wh.cell? ⟨w1.heap.size, 5, none⟩ = some (.bool (decide (0 ≤ foc))) := by rw [cell_of_row _ _ _ _ _ _ hRh]; rfl
            have x5 : wh.cell? ⟨w.heap.size, 5, none⟩ = some (.bool false) := by rw [cell_of_row _ _ _ _ _ _ hgW]; rfl
            have z6 : wh.cell? ⟨w1.heap.size, 6, none⟩ = some (.int .i64 zma) := by rw [cell_of_row _ _ _ _ _ _ hRh]; rfl
            have x6 : wh.cell? ⟨w.heap.size, 6, none⟩ = some (.int .i64 0) := by rw [cell_of_row _ _ _ _ _ _ hgW]; rfl
            have z7 : wh.cell? ⟨w1.heap.size, 7, none⟩ = some (.int .i64 zsm) := by rw [cell_of_row _ _ _ _ _ _ hRh]; rfl
            have x7 : wh.cell? ⟨w.heap.size, 7, none⟩ = some (.int .i64 0) := by rw [cell_of_row _ _ _ _ _ _ hgW]; rfl
            have z8 : wh.cell? ⟨w1.heap.size, 8, none⟩ = some (.int .i64 zmf) := by rw [cell_of_row _ _ _ _ _ _ hRh]; rfl
            have x8 : wh.cell? ⟨w.heap.size, 8, none⟩ = some (.int .i64 0) := by rw [cell_of_row _ _ _ _ _ _ hgW]; rfl
            have z9 : wh.cell? ⟨w1.heap.size, 9, none⟩ = some (.int .i64 zz) := by rw [cell_of_row _ _ _ _ _ _ hRh]; rfl
            have x9 : wh.cell? ⟨w.heap.size, 9, none⟩ = some (.int .i64 0) := by rw [cell_of_row _ _ _ _ _ _ hgW]; rfl
            have xf : ∀ j, wh.frozen? ⟨w.heap.size, j, none⟩ = false := fun j => frozen_of_row _ _ _ _ _ hgW
            have HV := Lib.hid (show ctlV D false = .agg #[.bool (decide (0 ≤ fns)), .bool (decide (0 ≤ fnc)), .bool (decide (0 ≤ fpr)), .bool (decide (0 ≤ fpu)), .bool true, .bool (decide (0 ≤ foc)), .int .i64 zma, .int .i64 zsm, .int .i64 zmf, .int .i64 zz] by unfold ctlV; rw [← Kns.out, ← Knc.out, ← Kpr.out, ← Kpu.out, ← Kmu.out, ← Kpx.out, ← Koc.out, ← HZ1.out, ← HZ2.out, ← HZ3.out, HP.out]; simp [hmu])
            have HBF := Lib.hid (hB1.trans (hBh.mono hs1'))
            clear hgW
            go_wp2_with fail
            refine bodyPost_ret (v := ctlV D false) (by rw [HV.out]; simp [results, Tryd.results14, go_sem, x0, x1, x2, x3, x4, x5, x6, x7, x8, x9]) rfl ⟨?_, ?_⟩
            · unfold ctlT; rw [← show D = dirsOf (valuesOf L ccW) from HDD.out, ← show false = oldT L from HOLD.out]
            · exact ((((((((((HBF.out.setCell (p := ⟨w.heap.size, 0, none⟩) (Nat.le_refl _) _).setCell (p := ⟨w.heap.size, 1, none⟩) (Nat.le_refl _) _).setCell (p := ⟨w.heap.size, 2, none⟩) (Nat.le_refl _) _).setCell (p := ⟨w.heap.size, 3, none⟩) (Nat.le_refl _) _).setCell (p := ⟨w.heap.size, 4, none⟩) (Nat.le_refl _) _).setCell (p := ⟨w.heap.size, 5, none⟩) (Nat.le_refl _) _).setCell (p := ⟨w.heap.size, 6, none⟩) (Nat.le_refl _) _).setCell (p := ⟨w.heap.size, 7, none⟩) (Nat.le_refl _) _).setCell (p := ⟨w.heap.size, 8, none⟩) (Nat.le_refl _) _).setCell (p := ⟨w.heap.size, 9, none⟩) (Nat.le_refl _) _)
        · have hvi : (((valuesOf L ccW).length : Int) == 0) = false := by simpa using hv0
          have ho : old = false := by
            rw [HOLD.out]; unfold oldT
            cases hx : valuesOf L ccW with
            | nil => rw [hx] at hv0; exact absurd rfl hv0
            | cons x r => rfl
          subst ho
          have hgW := (hBv.block w.heap.size (by omega)).trans hg1
          have z0 : wv.cell? ⟨w1.heap.size, 0, none⟩ = some (.bool (decide (0 ≤ fns))) := by rw [cell_of_row _ _ _ _ _ _ hRv]; rfl
          have x0 : wv.cell? ⟨w.heap.size, 0, none⟩ = some (.bool false) := by rw [cell_of_row _ _ _ _ _ _ hgW]; rfl
          have z1 : wv.cell? ⟨w1.heap.size, 1, none⟩ = some (.bool (decide (0 ≤ fnc))) := by rw [cell_of_row _ _ _ _ _ _ hRv]; rfl
          have x1 : wv.cell? ⟨w.heap.size, 1, none⟩ = some (.bool false) := by rw [cell_of_row _ _ _ _ _ _ hgW]; rfl
          have z2 : wv.cell? ⟨w1.heap.size, 2, none⟩ = some (.bool (decide (0 ≤ fpr))) := by rw [cell_of_row _ _ _ _ _ _ hRv]; rfl
          have x2 : wv.cell? ⟨w.heap.size, 2, none⟩ = some (.bool false) := by rw [cell_of_row _ _ _ _ _ _ hgW]; rfl
          have z3 : wv.cell? ⟨w1.heap.size, 3, none⟩ = some (.bool (decide (0 ≤ fpu))) := by rw [cell_of_row _ _ _ _ _ _ hRv]; rfl
          have x3 : wv.cell? ⟨w.heap.size, 3, none⟩ = some (.bool false) := by rw [cell_of_row _ _ _ _ _ _ hgW]; rfl
          have z4 : wv.cell? ⟨w1.heap.size, 4, none⟩ = some (.bool true) := by rw [cell_of_row _ _ _ _ _ _ hRv]; rfl
          have x4 : wv.cell? ⟨w.heap.size, 4, none⟩ = some (.bool false) := by rw [cell_of_row _ _ _ _ _ _ hgW]; rfl
          have z5 : wv.cell? ⟨w1.heap.size, 5, none⟩ = some (.bool (decide (0 ≤ foc))) := by rw [cell_of_row _ _ _ _ _ _ hRv]; rfl
          have x5 : wv.cell? ⟨w.heap.size, 5, none⟩ = some (.bool false) := by rw [cell_of_row _ _ _ _ _ _ hgW]; rfl
          have z6 : wv.cell? ⟨w1.heap.size, 6, none⟩ = some (.int .i64 zma) := by rw [cell_of_row _ _ _ _ _ _ hRv]; rfl
          have x6 : wv.cell? ⟨w.heap.size, 6, none⟩ = some (.int .i64 0) := by rw [cell_of_row _ _ _ _ _ _ hgW]; rfl
          have z7 : wv.cell? ⟨w1.heap.size, 7, none⟩ = some (.int .i64 zsm) := by rw [cell_of_row _ _ _ _ _ _ hRv]; rfl
          have x7 : wv.cell? ⟨w.heap.size, 7, none⟩ = some (.int .i64 0) := by rw [cell_of_row _ _ _ _ _ _ hgW]; rfl
          have z8 : wv.cell? ⟨w1.heap.size, 8, none⟩ = some (.int .i64 zmf) := by rw [cell_of_row _ _ _ _ _ _ hRv]; rfl
          have x8 : wv.cell? ⟨w.heap.size, 8, none⟩ = some (.int .i64 0) := by rw [cell_of_row _ _ _ _ _ _ hgW]; rfl
          have z9 : wv.cell? ⟨w1.heap.size, 9, none⟩ = some (.int .i64 zz) := by rw [cell_of_row _ _ _ _ _ _ hRv]; rfl
          have x9 : wv.cell? ⟨w.heap.size, 9, none⟩ = some (.int .i64 0) := by rw [cell_of_row _ _ _ _ _ _ hgW]; rfl
          have xf : ∀ j, wv.frozen? ⟨w.heap.size, j, none⟩ = false := fun j => frozen_of_row _ _ _ _ _ hgW
          have HV := Lib.hid (show ctlV D false = .agg #[.bool (decide (0 ≤ fns)), .bool (decide (0 ≤ fnc)), .bool (decide (0 ≤ fpr)), .bool (decide (0 ≤ fpu)), .bool true, .bool (decide (0 ≤ foc)), .int .i64 zma, .int .i64 zsm, .int .i64 zmf, .int .i64 zz] by unfold ctlV; rw [← Kns.out, ← Knc.out, ← Kpr.out, ← Kpu.out, ← Kmu.out, ← Kpx.out, ← Koc.out, ← HZ1.out, ← HZ2.out, ← HZ3.out, HP.out]; simp [hmu])
          have HBF := Lib.hid (hB1.trans (hBv.mono hs1'))
          clear hgW
          go_wp2_with fail
          refine bodyPost_ret (v := ctlV D false) (by rw [HV.out]; simp [results, Tryd.results14, go_sem, x0, x1, x2, x3, x4, x5, x6, x7, x8, x9]) rfl ⟨?_, ?_⟩
          · unfold ctlT; rw [← show D = dirsOf (valuesOf L ccW) from HDD.out, ← show false = oldT L from HOLD.out]
          · exact ((((((((((HBF.out.setCell (p := ⟨w.heap.size, 0, none⟩) (Nat.le_refl _) _).setCell (p := ⟨w.heap.size, 1, none⟩) (Nat.le_refl _) _).setCell (p := ⟨w.heap.size, 2, none⟩) (Nat.le_refl _) _).setCell (p := ⟨w.heap.size, 3, none⟩) (Nat.le_refl _) _).setCell (p := ⟨w.heap.size, 4, none⟩) (Nat.le_refl _) _).setCell (p := ⟨w.heap.size, 5, none⟩) (Nat.le_refl _) _).setCell (p := ⟨w.heap.size, 6, none⟩) (Nat.le_refl _) _).setCell (p := ⟨w.heap.size, 7, none⟩) (Nat.le_refl _) _).setCell (p := ⟨w.heap.size, 8, none⟩) (Nat.le_refl _) _).setCell (p := ⟨w.heap.size, 9, none⟩) (Nat.le_refl _) _)
  · have hB7' := hB7
    have hR7' := hR7
    have y7 : ∀ j, w7.frozen? ⟨w1.heap.size, j, none⟩ = false := fun j => frozen_of_row _ _ _ _ _ hR7
    go_wp2_with fail
    refine (Fpx.out _ _ hB7' hR7').mono ?_
    rintro e w8 ⟨rfl, hB8, hR8⟩
    clear hB7' hR7' y7 hR7 hB7
    have z4 : w8.cell? ⟨w1.heap.size, 4, none⟩ = some (.bool false) := by rw [cell_of_row _ _ _ _ _ _ hR8]; rfl
    have y8 : ∀ j, w8.frozen? ⟨w1.heap.size, j, none⟩ = false := fun j => frozen_of_row _ _ _ _ _ hR8
    have hB8' := hB8.setCell (p := ⟨w1.heap.size, 4, none⟩) (Nat.le_refl _) (.bool (decide (0 ≤ fmu) || decide (0 ≤ fpx)))
    have hR8' : (w8.setCell ⟨w1.heap.size, 4, none⟩ (.bool (decide (0 ≤ fmu) || decide (0 ≤ fpx)))).heap[w1.heap.size]? = some (.cells #[.bool (decide (0 ≤ fns)), .bool (decide (0 ≤ fnc)), .bool (decide (0 ≤ fpr)), .bool (decide (0 ≤ fpu)), .bool (decide (0 ≤ fmu) || decide (0 ≤ fpx)), .bool false, .int .i64 zma, .int .i64 zsm, .int .i64 zmf, .int .i64 (-1)] 28 (0, 0)) := heap_setCell_same _ _ _ _ _ _ hR8
    go_wp2_with fail
    refine (Foc.out _ _ hB8' hR8').mono ?_
    rintro e w9 ⟨rfl, hB9, hR9⟩
    clear hB8' hR8' z4 y8 hR8 hB8
    have z5 : w9.cell? ⟨w1.heap.size, 5, none⟩ = some (.bool false) := by rw [cell_of_row _ _ _ _ _ _ hR9]; rfl
    have y9 : ∀ j, w9.frozen? ⟨w1.heap.size, j, none⟩ = false := fun j => frozen_of_row _ _ _ _ _ hR9
    have hB9' := hB9.setCell (p := ⟨w1.heap.size, 5, none⟩) (Nat.le_refl _) (.bool (decide (0 ≤ foc)))
    have hR9' : (w9.setCell ⟨w1.heap.size, 5, none⟩ (.bool (decide (0 ≤ foc)))).heap[w1.heap.size]? = some (.cells #[.bool (decide (0 ≤ fns)), .bool (decide (0 ≤ fnc)), .bool (decide (0 ≤ fpr)), .bool (decide (0 ≤ fpu)), .bool (decide (0 ≤ fmu) || decide (0 ≤ fpx)), .bool (decide (0 ≤ foc)), .int .i64 zma, .int .i64 zsm, .int .i64 zmf, .int .i64 (-1)] 28 (0, 0)) := heap_setCell_same _ _ _ _ _ _ hR9
    go_wp2_with fail
    refine (Fst.out _ _ hB9' hR9').mono ?_
    rintro e w10 ⟨rfl, hB10, hR10⟩
    clear hB9' hR9' z5 y9 hR9 hB9
    rcases findI_look D staleL with ⟨q1, q2⟩ | ⟨ix, hix, q1, q2⟩
    · have hneg : ¬ (0 : Int) ≤ fst := by rw [HST.out, q1]; omega
      have HP := Lib.hid (show patM D = -1 by unfold patM; rw [q2])
      clear q1 q2
      have hBw := hB1.trans ((hB10).mono hs1')
      have hBz := (hB10).size
      have hval := HRV.out (w10) hBw
      clear hBw
      go_wp2_with fail
      refine hval.mono ?_
      rintro e wv ⟨vv, rfl, hownv, hbv⟩
      have hbv' := hbv.mono hBz
      have hBv := (hB10).trans hbv'
      have hRv := (hbv.block w1.heap.size (Array.getElem?_eq_some_iff.1 (hR10)).1).trans (hR10)
      obtain ⟨pz, cz, rfl, _, _, _, _⟩ := hownv.shape rfl
      clear hval hownv hbv hbv' hBz
      by_cases hv0 : (valuesOf L ccW).length = 0
      · have hvi : (((valuesOf L ccW).length : Int) == 0) = true := by rw [hv0]; rfl
        have hhas := HRH.out wv (hB1.trans (hBv.mono hs1'))
        have ho : old = (tokensOf L pgW).contains ncW := by
          rw [HOLD.out]; unfold oldT
          rw [List.isEmpty_iff.2 (List.length_eq_zero_iff.1 hv0), Bool.true_and]
        rw [← ho] at hhas
        have hBvs := hBv.size
        clear ho
        go_wp2_with fail
        refine hhas.mono ?_
        rintro e wh ⟨rfl, hbh⟩
        have hBh := hBv.trans (hbh.mono hBvs)
        have hRh := (hbh.block w1.heap.size (Array.getElem?_eq_some_iff.1 hRv).1).trans hRv
        clear hhas hbh hBv hRv
        cases old with
        | true =>
          have k1 : wh.cell? ⟨w1.heap.size, 1, none⟩ = some (.bool (decide (0 ≤ fnc))) := by rw [cell_of_row _ _ _ _ _ _ hRh]; rfl
          have kf : ∀ j, wh.frozen? ⟨w1.heap.size, j, none⟩ = false := fun j => frozen_of_row _ _ _ _ _ hRh
          have hBs := hBh.setCell (p := ⟨w1.heap.size, 1, none⟩) (Nat.le_refl _) (.bool true)
          have hRs : (wh.setCell ⟨w1.heap.size, 1, none⟩ (.bool true)).heap[w1.heap.size]? = some (.cells #[.bool (decide (0 ≤ fns)), .bool true, .bool (decide (0 ≤ fpr)), .bool (decide (0 ≤ fpu)), .bool (decide (0 ≤ fmu) || decide (0 ≤ fpx)), .bool (decide (0 ≤ foc)), .int .i64 zma, .int .i64 zsm, .int .i64 zmf, .int .i64 (-1)] 28 (0, 0)) := heap_setCell_same _ _ _ _ _ _ hRh
          have hgW := (hBs.block w.heap.size (by omega)).trans hg1
          have z0 : (wh.setCell ⟨w1.heap.size, 1, none⟩ (.bool true)).cell? ⟨w1.heap.size, 0, none⟩ = some (.bool (decide (0 ≤ fns))) := by rw [cell_of_row _ _ _ _ _ _ hRs]; rfl
          have x0 : (wh.setCell ⟨w1.heap.size, 1, none⟩ (.bool true)).cell? ⟨w.heap.size, 0, none⟩ = some (.bool false) := by rw [cell_of_row _ _ _ _ _ _ hgW]; rfl
          have z1 : (wh.setCell ⟨w1.heap.size, 1, none⟩ (.bool true)).cell? ⟨w1.heap.size, 1, none⟩ = some (.bool true) := by rw [cell_of_row _ _ _ _ _ _ hRs]; rfl
          have x1 : (wh.setCell ⟨w1.heap.size, 1, none⟩ (.bool true)).cell? ⟨w.heap.size, 1, none⟩ = some (.bool false) := by rw [cell_of_row _ _ _ _ _ _ hgW]; rfl
          have z2 : (wh.setCell ⟨w1.heap.size, 1, none⟩ (.bool true)).cell? ⟨w1.heap.size, 2, none⟩ = some (.bool (decide (0 ≤ fpr))) := by rw [cell_of_row _ _ _ _ _ _ hRs]; rfl
          have x2 : (wh.setCell ⟨w1.heap.size, 1, none⟩ (.bool true)).cell? ⟨w.heap.size, 2, none⟩ = some (.bool false) := by rw [cell_of_row _ _ _ _ _ _ hgW]; rfl
          have z3 : (wh.setCell ⟨w1.heap.size, 1, none⟩ (.bool true)).cell? ⟨w1.heap.size, 3, none⟩ = some (.bool (decide (0 ≤ fpu))) := by rw [cell_of_row _ _ _ _ _ _ hRs]; rfl
          have x3 : (wh.setCell ⟨w1.heap.size, 1, none⟩ (.bool true)).cell? ⟨w.heap.size, 3, none⟩ = some (.bool false) := by rw [cell_of_row _ _ _ _ _ _ hgW]; rfl
          have z4 : (wh.setCell ⟨w1.heap.size, 1, none⟩ (.bool true)).cell? ⟨w1.heap.size, 4, none⟩ = some (.bool (decide (0 ≤ fmu) || decide (0 ≤ fpx))) := by rw [cell_of_row _ _ _ _ _ _ hRs]; rfl
          have x4 : (wh.setCell ⟨w1.heap.size, 1, none⟩ (.bool true)).cell? ⟨w.heap.size, 4, none⟩ = some (.bool false) := by rw [cell_of_row _ _ _ _ _ _ hgW]; rfl
          have z5 : (wh.setCell ⟨w1.heap.size, 1, none⟩ (.bool true)).cell? ⟨w1.heap.size, 5, none⟩ = some (.bool (decide (0 ≤ foc))) := by rw [cell_of_row _ _ _ _ _ _ hRs]; rfl
          have x5 : (wh.setCell ⟨w1.heap.size, 1, none⟩ (.bool true)).cell? ⟨w.heap.size, 5, none⟩ = some (.bool false) := by rw [cell_of_row _ _ _ _ _ _ hgW]; rfl
          have z6 : (wh.setCell ⟨w1.heap.size, 1, none⟩ (.bool true)).cell? ⟨w1.heap.size, 6, none⟩ = some (.int .i64 zma) := by rw [cell_of_row _ _ _ _ _ _ hRs]; rfl
          have x6 : (wh.setCell ⟨w1.heap.size, 1, none⟩ (.bool true)).cell? ⟨w.heap.size, 6, none⟩ = some (.int .i64 0) := by rw [cell_of_row _ _ _ _ _ _ hgW]; rfl
          have z7 : (wh.setCell ⟨w1.heap.size, 1, none⟩ (.bool true)).cell? ⟨w1.heap.size, 7, none⟩ = some (.int .i64 zsm) := by rw [cell_of_row _ _ _ _ _ _ hRs]; rfl
          have x7 : (wh.setCell ⟨w1.heap.size, 1, none⟩ (.bool true)).cell? ⟨w.heap.size, 7, none⟩ = some (.int .i64 0) := by rw [cell_of_row _ _ _ _ _ _ hgW]; rfl
          have z8 : (wh.setCell ⟨w1.heap.size, 1, none⟩ (.bool true)).cell? ⟨w1.heap.size, 8, none⟩ = some (.int .i64 zmf) := by rw [cell_of_row _ _ _ _ _ _ hRs]; rfl
          have x8 : (wh.setCell ⟨w1.heap.size, 1, none⟩ (.bool true)).cell? ⟨w.heap.size, 8, none⟩ = some (.int .i64 0) := by rw [cell_of_row _ _ _ _ _ _ hgW]; rfl
          have z9 : (wh.setCell ⟨w1.heap.size, 1, none⟩ (.bool true)).cell? ⟨w1.heap.size, 9, none⟩ = some (.int .i64 (-1)) := by rw [cell_of_row _ _ _ _ _ _ hRs]; rfl
          have x9 : (wh.setCell ⟨w1.heap.size, 1, none⟩ (.bool true)).cell? ⟨w.heap.size, 9, none⟩ = some (.int .i64 0) := by rw [cell_of_row _ _ _ _ _ _ hgW]; rfl
          have xf : ∀ j, (wh.setCell ⟨w1.heap.size, 1, none⟩ (.bool true)).frozen? ⟨w.heap.size, j, none⟩ = false := fun j => frozen_of_row _ _ _ _ _ hgW
          have HV := Lib.hid (show ctlV D true = .agg #[.bool (decide (0 ≤ fns)), .bool true, .bool (decide (0 ≤ fpr)), .bool (decide (0 ≤ fpu)), .bool (decide (0 ≤ fmu) || decide (0 ≤ fpx)), .bool (decide (0 ≤ foc)), .int .i64 zma, .int .i64 zsm, .int .i64 zmf, .int .i64 (-1)] by unfold ctlV; rw [← Kns.out, ← Knc.out, ← Kpr.out, ← Kpu.out, ← Kmu.out, ← Kpx.out, ← Koc.out, ← HZ1.out, ← HZ2.out, ← HZ3.out, HP.out]; simp)
          have HBF := Lib.hid (hB1.trans (hBs.mono hs1'))
          clear hgW
          go_wp2_with fail
          refine bodyPost_ret (v := ctlV D true) (by rw [HV.out]; simp [results, Tryd.results14, go_sem, x0, x1, x2, x3, x4, x5, x6, x7, x8, x9]) rfl ⟨?_, ?_⟩
          · unfold ctlT; rw [← show D = dirsOf (valuesOf L ccW) from HDD.out, ← show true = oldT L from HOLD.out]
          · exact ((((((((((HBF.out.setCell (p := ⟨w.heap.size, 0, none⟩) (Nat.le_refl _) _).setCell (p := ⟨w.heap.size, 1, none⟩) (Nat.le_refl _) _).setCell (p := ⟨w.heap.size, 2, none⟩) (Nat.le_refl _) _).setCell (p := ⟨w.heap.size, 3, none⟩) (Nat.le_refl _) _).setCell (p := ⟨w.heap.size, 4, none⟩) (Nat.le_refl _) _).setCell (p := ⟨w.heap.size, 5, none⟩) (Nat.le_refl _) _).setCell (p := ⟨w.heap.size, 6, none⟩) (Nat.le_refl _) _).setCell (p := ⟨w.heap.size, 7, none⟩) (Nat.le_refl _) _).setCell (p := ⟨w.heap.size, 8, none⟩) (Nat.le_refl _) _).setCell (p := ⟨w.heap.size, 9, none⟩) (Nat.le_refl _) _)
        | false =>
          have hgW := (hBh.block w.heap.size (by omega)).trans hg1
          have z0 : wh.cell? ⟨w1.heap.size, 0, none⟩ = some (.bool (decide (0 ≤ fns))) := by rw [cell_of_row _ _ _ _ _ _ hRh]; rfl
          have x0 : wh.cell? ⟨w.heap.size, 0, none⟩ = some (.bool false) := by rw [cell_of_row _ _ _ _ _ _ hgW]; rfl
          have z1 : wh.cell? ⟨w1.heap.size, 1, none⟩ = some (.bool (decide (0 ≤ fnc))) := by rw [cell_of_row _ _ _ _ _ _ hRh]; rfl
          have x1 : wh.cell? ⟨w.heap.size, 1, none⟩ = some (.bool false) := by rw [cell_of_row _ _ _ _ _ _ hgW]; rfl
          have z2 : wh.cell? ⟨w1.heap.size, 2, none⟩ = some (.bool (decide (0 ≤ fpr))) := by rw [cell_of_row _ _ _ _ _ _ hRh]; rfl
          have x2 : wh.cell? ⟨w.heap.size, 2, none⟩ = some (.bool false) := by rw [cell_of_row _ _ _ _ _ _ hgW]; rfl
          have z3 : wh.cell? ⟨w1.heap.size, 3, none⟩ = some (.bool (decide (0 ≤ fpu))) := by rw [cell_of_row _ _ _ _ _ _ hRh]; rfl
          have x3 : wh.cell? ⟨w.heap.size, 3, none⟩ = some (.bool false) := by rw [cell_of_row _ _ _ _ _ _ hgW]; rfl
          have z4 : wh.cell? ⟨w1.heap.size, 4, none⟩ = some (.bool (decide (0 ≤ fmu) || decide (0 ≤ fpx))) := by rw [cell_of_row _ _ _ _ _ _ hRh]; rfl
          have x4 : wh.cell? ⟨w.heap.size, 4, none⟩ = some (.bool false) := by rw [cell_of_row _ _ _ _ _ _ hgW]; rfl
          have z5 : wh.cell? ⟨w1.heap.size, 5, none⟩ = some (.bool (decide (0 ≤ foc))) := by rw [cell_of_row _ _ _ _ _ _ hRh]; rfl
          have x5 : wh.cell? ⟨w.heap.size, 5, none⟩ = some (.bool false) := by rw [cell_of_row _ _ _ _ _ _ hgW]; rfl
          have z6 : wh.cell? ⟨w1.heap.size, 6, none⟩ = some (.int .i64 zma) := by rw [cell_of_row _ _ _ _ _ _ hRh]; rfl
          have x6 : wh.cell? ⟨w.heap.size, 6, none⟩ = some (.int .i64 0) := by rw [cell_of_row _ _ _ _ _ _ hgW]; rfl
          have z7 : wh.cell? ⟨w1.heap.size, 7, none⟩ = some (.int .i64 zsm) := by rw [cell_of_row _ _ _ _ _ _ hRh]; rfl
          have x7 : wh.cell? ⟨w.heap.size, 7, none⟩ = some (.int .i64 0) := by rw [cell_of_row _ _ _ _ _ _ hgW]; rfl
          have z8 : wh.cell? ⟨w1.heap.size, 8, none⟩ = some (.int .i64 zmf) := by rw [cell_of_row _ _ _ _ _ _ hRh]; rfl
          have x8 : wh.cell? ⟨w.heap.size, 8, none⟩ = some (.int .i64 0) := by rw [cell_of_row _ _ _ _ _ _ hgW]; rfl
          have z9 : wh.cell? ⟨w1.heap.size, 9, none⟩ = some (.int .i64 (-1)) := by rw [cell_of_row _ _ _ _ _ _ hRh]; rfl
          have x9 : wh.cell? ⟨w.heap.size, 9, none⟩ = some (.int .i64 0) := by rw [cell_of_row _ _ _ _ _ _ hgW]; rfl
          have xf : ∀ j, wh.frozen? ⟨w.heap.size, j, none⟩ = false := fun j => frozen_of_row _ _ _ _ _ hgW
          have HV := Lib.hid (show ctlV D false = .agg #[.bool (decide (0 ≤ fns)), .bool (decide (0 ≤ fnc)), .bool (decide (0 ≤ fpr)), .bool (decide (0 ≤ fpu)), .bool (decide (0 ≤ fmu) || decide (0 ≤ fpx)), .bool (decide (0 ≤ foc)), .int .i64 zma, .int .i64 zsm, .int .i64 zmf, .int .i64 (-1)] by unfold ctlV; rw [← Kns.out, ← Knc.out, ← Kpr.out, ← Kpu.out, ← Kmu.out, ← Kpx.out, ← Koc.out, ← HZ1.out, ← HZ2.out, ← HZ3.out, HP.out]; simp)
          have HBF := Lib.hid (hB1.trans (hBh.mono hs1'))
          clear hgW
          go_wp2_with fail
          refine bodyPost_ret (v := ctlV D false) (by rw [HV.out]; simp [results, Tryd.results14, go_sem, x0, x1, x2, x3, x4, x5, x6, x7, x8, x9]) rfl ⟨?_, ?_⟩
          · unfold ctlT; rw [← show D = dirsOf (valuesOf L ccW) from HDD.out, ← show false = oldT L from HOLD.out]
          · exact ((((((((((HBF.out.setCell (p := ⟨w.heap.size, 0, none⟩) (Nat.le_refl _) _).setCell (p := ⟨w.heap.size, 1, none⟩) (Nat.le_refl _) _).setCell (p := ⟨w.heap.size, 2, none⟩) (Nat.le_refl _) _).setCell (p := ⟨w.heap.size, 3, none⟩) (Nat.le_refl _) _).setCell (p := ⟨w.heap.size, 4, none⟩) (Nat.le_refl _) _).setCell (p := ⟨w.heap.size, 5, none⟩) (Nat.le_refl _) _).setCell (p := ⟨w.heap.size, 6, none⟩) (Nat.le_refl _) _).setCell (p := ⟨w.heap.size, 7, none⟩) (Nat.le_refl _) _).setCell (p := ⟨w.heap.size, 8, none⟩) (Nat.le_refl _) _).setCell (p := ⟨w.heap.size, 9, none⟩) (Nat.le_refl _) _)
      · have hvi : (((valuesOf L ccW).length : Int) == 0) = false := by simpa using hv0
        have ho : old = false := by
          rw [HOLD.out]; unfold oldT
          cases hx : valuesOf L ccW with
          | nil => rw [hx] at hv0; exact absurd rfl hv0
          | cons x r => rfl
        subst ho
        have hgW := (hBv.block w.heap.size (by omega)).trans hg1
        have z0 : wv.cell? ⟨w1.heap.size, 0, none⟩ = some (.bool (decide (0 ≤ fns))) := by rw [cell_of_row _ _ _ _ _ _ hRv]; rfl
        have x0 : wv.cell? ⟨w.heap.size, 0, none⟩ = some (.bool false) := by rw [cell_of_row _ _ _ _ _ _ hgW]; rfl
        have z1 : wv.cell? ⟨w1.heap.size, 1, none⟩ = some (.bool (decide (0 ≤ fnc))) := by rw [cell_of_row _ _ _ _ _ _ hRv]; rfl
        have x1 : wv.cell? ⟨w.heap.size, 1, none⟩ = some (.bool false) := by rw [cell_of_row _ _ _ _ _ _ hgW]; rfl
        have z2 : wv.cell? ⟨w1.heap.size, 2, none⟩ = some (.bool (decide (0 ≤ fpr))) := by rw [cell_of_row _ _ _ _ _ _ hRv]; rfl
        have x2 : wv.cell? ⟨w.heap.size, 2, none⟩ = some (.bool false) := by rw [cell_of_row _ _ _ _ _ _ hgW]; rfl
        have z3 : wv.cell? ⟨w1.heap.size, 3, none⟩ = some (.bool (decide (0 ≤ fpu))) := by rw [cell_of_row _ _ _ _ _ _ hRv]; rfl
        have x3 : wv.cell? ⟨w.heap.size, 3, none⟩ = some (.bool false) := by rw [cell_of_row _ _ _ _ _ _ hgW]; rfl
        have z4 : wv.cell? ⟨w1.heap.size, 4, none⟩ = some (.bool (decide (0 ≤ fmu) || decide (0 ≤ fpx))) := by rw [cell_of_row _ _ _ _ _ _ hRv]; rfl
        have x4 : wv.cell? ⟨w.heap.size, 4, none⟩ = some (.bool false) := by rw [cell_of_row _ _ _ _ _ _ hgW]; rfl
        have z5 : wv.cell? ⟨w1.heap.size, 5, none⟩ = some (.bool (decide (0 ≤ foc))) := by rw [cell_of_row _ _ _ _ _ _ hRv]; rfl
        have x5 : wv.cell? ⟨w.heap.size, 5, none⟩ = some (.bool false) := by rw [cell_of_row _ _ _ _ _ _ hgW]; rfl
        have z6 : wv.cell? ⟨w1.heap.size, 6, none⟩ = some (.int .i64 zma) := by rw [cell_of_row _ _ _ _ _ _ hRv]; rfl
        have x6 : wv.cell? ⟨w.heap.size, 6, none⟩ = some (.int .i64 0) := by rw [cell_of_row _ _ _ _ _ _ hgW]; rfl
        have z7 : wv.cell? ⟨w1.heap.size, 7, none⟩ = some (.int .i64 zsm) := by rw [cell_of_row _ _ _ _ _ _ hRv]; rfl
        have x7 : wv.cell? ⟨w.heap.size, 7, none⟩ = some (.int .i64 0) := by rw [cell_of_row _ _ _ _ _ _ hgW]; rfl
        have z8 : wv.cell? ⟨w1.heap.size, 8, none⟩ = some (.int .i64 zmf) := by rw [cell_of_row _ _ _ _ _ _ hRv]; rfl
        have x8 : wv.cell? ⟨w.heap.size, 8, none⟩ = some (.int .i64 0) := by rw [cell_of_row _ _ _ _ _ _ hgW]; rfl
        have z9 : wv.cell? ⟨w1.heap.size, 9, none⟩ = some (.int .i64 (-1)) := by rw [cell_of_row _ _ _ _ _ _ hRv]; rfl
        have x9 : wv.cell? ⟨w.heap.size, 9, none⟩ = some (.int .i64 0) := by rw [cell_of_row _ _ _ _ _ _ hgW]; rfl
        have xf : ∀ j, wv.frozen? ⟨w.heap.size, j, none⟩ = false := fun j => frozen_of_row _ _ _ _ _ hgW
        have HV := Lib.hid (show ctlV D false = .agg #[.bool (decide (0 ≤ fns)), .bool (decide (0 ≤ fnc)), .bool (decide (0 ≤ fpr)), .bool (decide (0 ≤ fpu)), .bool (decide (0 ≤ fmu) || decide (0 ≤ fpx)), .bool (decide (0 ≤ foc)), .int .i64 zma, .int .i64 zsm, .int .i64 zmf, .int .i64 (-1)] by unfold ctlV; rw [← Kns.out, ← Knc.out, ← Kpr.out, ← Kpu.out, ← Kmu.out, ← Kpx.out, ← Koc.out, ← HZ1.out, ← HZ2.out, ← HZ3.out, HP.out]; simp)
        have HBF := Lib.hid (hB1.trans (hBv.mono hs1'))
        clear hgW
        go_wp2_with fail
        refine bodyPost_ret (v := ctlV D false) (by rw [HV.out]; simp [results, Tryd.results14, go_sem, x0, x1, x2, x3, x4, x5, x6, x7, x8, x9]) rfl ⟨?_, ?_⟩
        · unfold ctlT; rw [← show D = dirsOf (valuesOf L ccW) from HDD.out, ← show false = oldT L from HOLD.out]
        · exact ((((((((((HBF.out.setCell (p := ⟨w.heap.size, 0, none⟩) (Nat.le_refl _) _).setCell (p := ⟨w.heap.size, 1, none⟩) (Nat.le_refl _) _).setCell (p := ⟨w.heap.size, 2, none⟩) (Nat.le_refl _) _).setCell (p := ⟨w.heap.size, 3, none⟩) (Nat.le_refl _) _).setCell (p := ⟨w.heap.size, 4, none⟩) (Nat.le_refl _) _).setCell (p := ⟨w.heap.size, 5, none⟩) (Nat.le_refl _) _).setCell (p := ⟨w.heap.size, 6, none⟩) (Nat.le_refl _) _).setCell (p := ⟨w.heap.size, 7, none⟩) (Nat.le_refl _) _).setCell (p := ⟨w.heap.size, 8, none⟩) (Nat.le_refl _) _).setCell (p := ⟨w.heap.size, 9, none⟩) (Nat.le_refl _) _)
    · obtain rfl : fst = (ix : Int) := by rw [HST.out, q1]
      have hpos : (0 : Int) ≤ (ix : Int) := by omega
      obtain ⟨g, rfl, hc⟩ := HIN.out (by omega)
      have hc1 := hc _ _ (de_get D ix hix).2.1
      have hc2 := hc _ _ (de_get D ix hix).2.2
      have hgB : g < w1.heap.size := World.block_lt_of_cell? w1 _ hc1
      have e1 := (hB10.cell (p := ⟨g, ix * 3 + 1, none⟩) hgB).trans hc1
      have e2 := (hB10.cell (p := ⟨g, ix * 3 + 2, none⟩) hgB).trans hc2
      obtain ⟨y, hy⟩ : ∃ y : ByteArray, y = ⟨D[ix].2.1.toArray⟩ := ⟨_, rfl⟩
      have hyd : y.data.toList = D[ix].2.1 := by rw [hy]
      have hys : y.size ≤ 140737488351232 := by rw [← size_list, hyd]; exact HDS.out _ (List.getElem_mem hix)
      rw [← hy] at e1
      have HY := Lib.hid hyd
      have HQ := Lib.hid q2
      have k9 : w10.cell? ⟨w1.heap.size, 9, none⟩ = some (.int .i64 (-1)) := by rw [cell_of_row _ _ _ _ _ _ hR10]; rfl
      have kf9 : ∀ j, w10.frozen? ⟨w1.heap.size, j, none⟩ = false := fun j => frozen_of_row _ _ _ _ _ hR10
      have hB9s := hB10.setCell (p := ⟨w1.heap.size, 9, none⟩) (Nat.le_refl _) (.int .i64 2147483648)
      have hR9s : (w10.setCell ⟨w1.heap.size, 9, none⟩ (.int .i64 2147483648)).heap[w1.heap.size]? = some (.cells #[.bool (decide (0 ≤ fns)), .bool (decide (0 ≤ fnc)), .bool (decide (0 ≤ fpr)), .bool (decide (0 ≤ fpu)), .bool (decide (0 ≤ fmu) || decide (0 ≤ fpx)), .bool (decide (0 ≤ foc)), .int .i64 zma, .int .i64 zsm, .int .i64 zmf, .int .i64 2147483648] 28 (0, 0)) := heap_setCell_same _ _ _ _ _ _ hR10
      clear hc hc1 hc2 hy hyd q1 q2
      cases hhs : D[ix].2.2 with
      | false =>
        rw [hhs] at e2
        have HP := Lib.hid (show patM D = 2147483648 by unfold patM; rw [HQ.out]; simp [hhs])
        clear hhs
        have hBw := hB1.trans ((hB9s).mono hs1')
        have hBz := (hB9s).size
        have hval := HRV.out (w10.setCell ⟨w1.heap.size, 9, none⟩ (.int .i64 2147483648)) hBw
        clear hBw
        go_wp2_with fail
        refine hval.mono ?_
        rintro e wv ⟨vv, rfl, hownv, hbv⟩
        have hbv' := hbv.mono hBz
        have hBv := (hB9s).trans hbv'
        have hRv := (hbv.block w1.heap.size (Array.getElem?_eq_some_iff.1 (hR9s)).1).trans (hR9s)
        obtain ⟨pz, cz, rfl, _, _, _, _⟩ := hownv.shape rfl
        clear hval hownv hbv hbv' hBz
        by_cases hv0 : (valuesOf L ccW).length = 0
        · have hvi : (((valuesOf L ccW).length : Int) == 0) = true := by rw [hv0]; rfl
          have hhas := HRH.out wv (hB1.trans (hBv.mono hs1'))
          have ho : old = (tokensOf L pgW).contains ncW := by
            rw [HOLD.out]; unfold oldT
            rw [List.isEmpty_iff.2 (List.length_eq_zero_iff.1 hv0), Bool.true_and]
          rw [← ho] at hhas
          have hBvs := hBv.size
          clear ho
          go_wp2_with fail
          refine hhas.mono ?_
          rintro e wh ⟨rfl, hbh⟩
          have hBh := hBv.trans (hbh.mono hBvs)
          have hRh := (hbh.block w1.heap.size (Array.getElem?_eq_some_iff.1 hRv).1).trans hRv
          clear hhas hbh hBv hRv
          cases old with
          | true =>
            have k1 : wh.cell? ⟨w1.heap.size, 1, none⟩ = some (.bool (decide (0 ≤ fnc))) := by rw [cell_of_row _ _ _ _ _ _ hRh]; rfl
            have kf : ∀ j, wh.frozen? ⟨w1.heap.size, j, none⟩ = false := fun j => frozen_of_row _ _ _ _ _ hRh
            have hBs := hBh.setCell (p := ⟨w1.heap.size, 1, none⟩) (Nat.le_refl _) (.bool true)
            have hRs : (wh.setCell ⟨w1.heap.size, 1, none⟩ (.bool true)).heap[w1.heap.size]? = some (.cells #[.bool (decide (0 ≤ fns)), .bool true, .bool (decide (0 ≤ fpr)), .bool (decide (0 ≤ fpu)), .bool (decide (0 ≤ fmu) || decide (0 ≤ fpx)), .bool (decide (0 ≤ foc)), .int .i64 zma, .int .i64 zsm, .int .i64 zmf, .int .i64 2147483648] 28 (0, 0)) := heap_setCell_same _ _ _ _ _ _ hRh
            have hgW := (hBs.block w.heap.size (by omega)).trans hg1
            have z0 : (wh.setCell ⟨w1.heap.size, 1, none⟩ (.bool true)).cell? ⟨w1.heap.size, 0, none⟩ = some (.bool (decide (0 ≤ fns))) := by rw [cell_of_row _ _ _ _ _ _ hRs]; rfl
            have x0 : (wh.setCell ⟨w1.heap.size, 1, none⟩ (.bool true)).cell? ⟨w.heap.size, 0, none⟩ = some (.bool false) := by rw [cell_of_row _ _ _ _ _ _ hgW]; rfl
            have z1 : (wh.setCell ⟨w1.heap.size, 1, none⟩ (.bool true)).cell? ⟨w1.heap.size, 1, none⟩ = some (.bool true) := by rw [cell_of_row _ _ _ _ _ _ hRs]; rfl
            have x1 : (wh.setCell ⟨w1.heap.size, 1, none⟩ (.bool true)).cell? ⟨w.heap.size, 1, none⟩ = some (.bool false) := by rw [cell_of_row _ _ _ _ _ _ hgW]; rfl
            have z2 : (wh.setCell ⟨w1.heap.size, 1, none⟩ (.bool true)).cell? ⟨w1.heap.size, 2, none⟩ = some (.bool (decide (0 ≤ fpr))) := by rw [cell_of_row _ _ _ _ _ _ hRs]; rfl
            have x2 : (wh.setCell ⟨w1.heap.size, 1, none⟩ (.bool true)).cell? ⟨w.heap.size, 2, none⟩ = some (.bool false) := by rw [cell_of_row _ _ _ _ _ _ hgW]; rfl
            have z3 : (wh.setCell ⟨w1.heap.size, 1, none⟩ (.bool true)).cell? ⟨w1.heap.size, 3, none⟩ = some (.bool (decide (0 ≤ fpu))) := by rw [cell_of_row _ _ _ _ _ _ hRs]; rfl
            have x3 : (wh.setCell ⟨w1.heap.size, 1, none⟩ (.bool true)).cell? ⟨w.heap.size, 3, none⟩ = some (.bool false) := by rw [cell_of_row _ _ _ _ _ _ hgW]; rfl
            have z4 : (wh.setCell ⟨w1.heap.size, 1, none⟩ (.bool true)).cell? ⟨w1.heap.size, 4, none⟩ = some (.bool (decide (0 ≤ fmu) || decide (0 ≤ fpx))) := by rw [cell_of_row _ _ _ _ _ _ hRs]; rfl
            have x4 : (wh.setCell ⟨w1.heap.size, 1, none⟩ (.bool true)).cell? ⟨w.heap.size, 4, none⟩ = some (.bool false) := by rw [cell_of_row _ _ _ _ _ _ hgW]; rfl
            have z5 : (wh.setCell ⟨w1.heap.size, 1, none⟩ (.bool true)).cell? ⟨w1.heap.size, 5, none⟩ = some (.bool (decide (0 ≤ foc))) := by rw [cell_of_row _ _ _ _ _ _ hRs]; rfl
            have x5 : (wh.setCell ⟨w1.heap.size, 1, none⟩ (.bool true)).cell? ⟨w.heap.size, 5, none⟩ = some (.bool false) := by rw [cell_of_row _ _ _ _ _ _ hgW]; rfl
            have z6 : (wh.setCell ⟨w1.heap.size, 1, none⟩ (.bool true)).cell? ⟨w1.heap.size, 6, none⟩ = some (.int .i64 zma) := by rw [cell_of_row _ _ _ _ _ _ hRs]; rfl
            have x6 : (wh.setCell ⟨w1.heap.size, 1, none⟩ (.bool true)).cell? ⟨w.heap.size, 6, none⟩ = some (.int .i64 0) := by rw [cell_of_row _ _ _ _ _ _ hgW]; rfl
            have z7 : (wh.setCell ⟨w1.heap.size, 1, none⟩ (.bool true)).cell? ⟨w1.heap.size, 7, none⟩ = some (.int .i64 zsm) := by rw [cell_of_row _ _ _ _ _ _ hRs]; rfl
            have x7 : (wh.setCell ⟨w1.heap.size, 1, none⟩ (.bool true)).cell? ⟨w.heap.size, 7, none⟩ = some (.int .i64 0) := by rw [cell_of_row _ _ _ _ _ _ hgW]; rfl
            have z8 : (wh.setCell ⟨w1.heap.size, 1, none⟩ (.bool true)).cell? ⟨w1.heap.size, 8, none⟩ = some (.int .i64 zmf) := by rw [cell_of_row _ _ _ _ _ _ hRs]; rfl
            have x8 : (wh.setCell ⟨w1.heap.size, 1, none⟩ (.bool true)).cell? ⟨w.heap.size, 8, none⟩ = some (.int .i64 0) := by rw [cell_of_row _ _ _ _ _ _ hgW]; rfl
            have z9 : (wh.setCell ⟨w1.heap.size, 1, none⟩ (.bool true)).cell? ⟨w1.heap.size, 9, none⟩ = some (.int .i64 2147483648) := by rw [cell_of_row _ _ _ _ _ _ hRs]; rfl
            have x9 : (wh.setCell ⟨w1.heap.size, 1, none⟩ (.bool true)).cell? ⟨w.heap.size, 9, none⟩ = some (.int .i64 0) := by rw [cell_of_row _ _ _ _ _ _ hgW]; rfl
            have xf : ∀ j, (wh.setCell ⟨w1.heap.size, 1, none⟩ (.bool true)).frozen? ⟨w.heap.size, j, none⟩ = false := fun j => frozen_of_row _ _ _ _ _ hgW
            have HV := Lib.hid (show ctlV D true = .agg #[.bool (decide (0 ≤ fns)), .bool true, .bool (decide (0 ≤ fpr)), .bool (decide (0 ≤ fpu)), .bool (decide (0 ≤ fmu) || decide (0 ≤ fpx)), .bool (decide (0 ≤ foc)), .int .i64 zma, .int .i64 zsm, .int .i64 zmf, .int .i64 2147483648] by unfold ctlV; rw [← Kns.out, ← Knc.out, ← Kpr.out, ← Kpu.out, ← Kmu.out, ← Kpx.out, ← Koc.out, ← HZ1.out, ← HZ2.out, ← HZ3.out, HP.out]; simp)
            have HBF := Lib.hid (hB1.trans (hBs.mono hs1'))
            clear hgW
            go_wp2_with fail
            refine bodyPost_ret (v := ctlV D true) (by rw [HV.out]; simp [results, Tryd.results14, go_sem, x0, x1, x2, x3, x4, x5, x6, x7, x8, x9]) rfl ⟨?_, ?_⟩
            · unfold ctlT; rw [← show D = dirsOf (valuesOf L ccW) from HDD.out, ← show true = oldT L from HOLD.out]
            · exact ((((((((((HBF.out.setCell (p := ⟨w.heap.size, 0, none⟩) (Nat.le_refl _) _).setCell (p := ⟨w.heap.size, 1, none⟩) (Nat.le_refl _) _).setCell (p := ⟨w.heap.size, 2, none⟩) (Nat.le_refl _) _).setCell (p := ⟨w.heap.size, 3, none⟩) (Nat.le_refl _) _).setCell (p := ⟨w.heap.size, 4, none⟩) (Nat.le_refl _) _).setCell (p := ⟨w.heap.size, 5, none⟩) (Nat.le_refl _) _).setCell (p := ⟨w.heap.size, 6, none⟩) (Nat.le_refl _) _).setCell (p := ⟨w.heap.size, 7, none⟩) (Nat.le_refl _) _).setCell (p := ⟨w.heap.size, 8, none⟩) (Nat.le_refl _) _).setCell (p := ⟨w.heap.size, 9, none⟩) (Nat.le_refl _) _)
          | false =>
            have hgW := (hBh.block w.heap.size (by omega)).trans hg1
            have z0 : wh.cell? ⟨w1.heap.size, 0, none⟩ = some (.bool (decide (0 ≤ fns))) := by rw [cell_of_row _ _ _ _ _ _ hRh]; rfl
            have x0 : wh.cell? ⟨w.heap.size, 0, none⟩ = some (.bool false) := by rw [cell_of_row _ _ _ _ _ _ hgW]; rfl
            have z1 : wh.cell? ⟨w1.heap.size, 1, none⟩ = some (.bool (decide (0 ≤ fnc))) := by rw [cell_of_row _ _ _ _ _ _ hRh]; rfl
            have x1 : wh.cell? ⟨w.heap.size, 1, none⟩ = some (.bool false) := by rw [cell_of_row _ _ _ _ _ _ hgW]; rfl
            have z2 : wh.cell? ⟨w1.heap.size, 2, none⟩ = some (.bool (decide (0 ≤ fpr))) := by rw [cell_of_row _ _ _ _ _ _ hRh]; rfl
            have x2 : wh.cell? ⟨w.heap.size, 2, none⟩ = some (.bool false) := by rw [cell_of_row _ _ _ _ _ _ hgW]; rfl
            have z3 : wh.cell? ⟨w1.heap.size, 3, none⟩ = some (.bool (decide (0 ≤ fpu))) := by rw [cell_of_row _ _ _ _ _ _ hRh]; rfl
            have x3 : wh.cell? ⟨w.heap.size, 3, none⟩ = some (.bool false) := by rw [cell_of_row _ _ _ _ _ _ hgW]; rfl
            have z4 : wh.cell? ⟨w1.heap.size, 4, none⟩ = some (.bool (decide (0 ≤ fmu) || decide (0 ≤ fpx))) := by rw [cell_of_row _ _ _ _ _ _ hRh]; rfl
            have x4 : wh.cell? ⟨w.heap.size, 4, none⟩ = some (.bool false) := by rw [cell_of_row _ _ _ _ _ _ hgW]; rfl
            have z5 : wh.cell? ⟨w1.heap.size, 5, none⟩ = some (.bool (decide (0 ≤ foc))) := by rw [cell_of_row _ _ _ _ _ _ hRh]; rfl
            have x5 : wh.cell? ⟨w.heap.size, 5, none⟩ = some (.bool false) := by rw [cell_of_row _ _ _ _ _ _ hgW]; rfl
            have z6 : wh.cell? ⟨w1.heap.size, 6, none⟩ = some (.int .i64 zma) := by rw [cell_of_row _ _ _ _ _ _ hRh]; rfl
            have x6 : wh.cell? ⟨w.heap.size, 6, none⟩ = some (.int .i64 0) := by rw [cell_of_row _ _ _ _ _ _ hgW]; rfl
            have z7 : wh.cell? ⟨w1.heap.size, 7, none⟩ = some (.int .i64 zsm) := by rw [cell_of_row _ _ _ _ _ _ hRh]; rfl
            have x7 : wh.cell? ⟨w.heap.size, 7, none⟩ = some (.int .i64 0) := by rw [cell_of_row _ _ _ _ _ _ hgW]; rfl
            have z8 : wh.cell? ⟨w1.heap.size, 8, none⟩ = some (.int .i64 zmf) := by rw [cell_of_row _ _ _ _ _ _ hRh]; rfl
            have x8 : wh.cell? ⟨w.heap.size, 8, none⟩ = some (.int .i64 0) := by rw [cell_of_row _ _ _ _ _ _ hgW]; rfl
            have z9 : wh.cell? ⟨w1.heap.size, 9, none⟩ = some (.int .i64 2147483648) := by rw [cell_of_row _ _ _ _ _ _ hRh]; rfl
            have x9 : wh.cell? ⟨w.heap.size, 9, none⟩ = some (.int .i64 0) := by rw [cell_of_row _ _ _ _ _ _ hgW]; rfl
            have xf : ∀ j, wh.frozen? ⟨w.heap.size, j, none⟩ = false := fun j => frozen_of_row _ _ _ _ _ hgW
            have HV := Lib.hid (show ctlV D false = .agg #[.bool (decide (0 ≤ fns)), .bool (decide (0 ≤ fnc)), .bool (decide (0 ≤ fpr)), .bool (decide (0 ≤ fpu)), .bool (decide (0 ≤ fmu) || decide (0 ≤ fpx)), .bool (decide (0 ≤ foc)), .int .i64 zma, .int .i64 zsm, .int .i64 zmf, .int .i64 2147483648] by unfold ctlV; rw [← Kns.out, ← Knc.out, ← Kpr.out, ← Kpu.out, ← Kmu.out, ← Kpx.out, ← Koc.out, ← HZ1.out, ← HZ2.out, ← HZ3.out, HP.out]; simp)
            have HBF := Lib.hid (hB1.trans (hBh.mono hs1'))
            clear hgW
            go_wp2_with fail
            refine bodyPost_ret (v := ctlV D false) (by rw [HV.out]; simp [results, Tryd.results14, go_sem, x0, x1, x2, x3, x4, x5, x6, x7, x8, x9]) rfl ⟨?_, ?_⟩
            · unfold ctlT; rw [← show D = dirsOf (valuesOf L ccW) from HDD.out, ← show false = oldT L from HOLD.out]
            · exact ((((((((((HBF.out.setCell (p := ⟨w.heap.size, 0, none⟩) (Nat.le_refl _) _).setCell (p := ⟨w.heap.size, 1, none⟩) (Nat.le_refl _) _).setCell (p := ⟨w.heap.size, 2, none⟩) (Nat.le_refl _) _).setCell (p := ⟨w.heap.size, 3, none⟩) (Nat.le_refl _) _).setCell (p := ⟨w.heap.size, 4, none⟩) (Nat.le_refl _) _).setCell (p := ⟨w.heap.size, 5, none⟩) (Nat.le_refl _) _).setCell (p := ⟨w.heap.size, 6, none⟩) (Nat.le_refl _) _).setCell (p := ⟨w.heap.size, 7, none⟩) (Nat.le_refl _) _).setCell (p := ⟨w.heap.size, 8, none⟩) (Nat.le_refl _) _).setCell (p := ⟨w.heap.size, 9, none⟩) (Nat.le_refl _) _)
        · have hvi : (((valuesOf L ccW).length : Int) == 0) = false := by simpa using hv0
          have ho : old = false := by
            rw [HOLD.out]; unfold oldT
            cases hx : valuesOf L ccW with
            | nil => rw [hx] at hv0; exact absurd rfl hv0
            | cons x r => rfl
          subst ho
          have hgW := (hBv.block w.heap.size (by omega)).trans hg1
          have z0 : wv.cell? ⟨w1.heap.size, 0, none⟩ = some (.bool (decide (0 ≤ fns))) := by rw [cell_of_row _ _ _ _ _ _ hRv]; rfl
          have x0 : wv.cell? ⟨w.heap.size, 0, none⟩ = some (.bool false) := by rw [cell_of_row _ _ _ _ _ _ hgW]; rfl
          have z1 : wv.cell? ⟨w1.heap.size, 1, none⟩ = some (.bool (decide (0 ≤ fnc))) := by rw [cell_of_row _ _ _ _ _ _ hRv]; rfl
          have x1 : wv.cell? ⟨w.heap.size, 1, none⟩ = some (.bool false) := by rw [cell_of_row _ _ _ _ _ _ hgW]; rfl
          have z2 : wv.cell? ⟨w1.heap.size, 2, none⟩ = some (.bool (decide (0 ≤ fpr))) := by rw [cell_of_row _ _ _ _ _ _ hRv]; rfl
          have x2 : wv.cell? ⟨w.heap.size, 2, none⟩ = some (.bool false) := by rw [cell_of_row _ _ _ _ _ _ hgW]; rfl
          have z3 : wv.cell? ⟨w1.heap.size, 3, none⟩ = some (.bool (decide (0 ≤ fpu))) := by rw [cell_of_row _ _ _ _ _ _ hRv]; rfl
          have x3 : wv.cell? ⟨w.heap.size, 3, none⟩ = some (.bool false) := by rw [cell_of_row _ _ _ _ _ _ hgW]; rfl
          have z4 : wv.cell? ⟨w1.heap.size, 4, none⟩ = some (.bool (decide (0 ≤ fmu) || decide (0 ≤ fpx))) := by rw [cell_of_row _ _ _ _ _ _ hRv]; rfl
          have x4 : wv.cell? ⟨w.heap.size, 4, none⟩ = some (.bool false) := by rw [cell_of_row _ _ _ _ _ _ hgW]; rfl
          have z5 : wv.cell? ⟨w1.heap.size, 5, none⟩ = some (.bool (decide (0 ≤ foc))) := by rw [cell_of_row _ _ _ _ _ _ hRv]; rfl
          have x5 : wv.cell? ⟨w.heap.size, 5, none⟩ = some (.bool false) := by rw [cell_of_row _ _ _ _ _ _ hgW]; rfl
          have z6 : wv.cell? ⟨w1.heap.size, 6, none⟩ = some (.int .i64 zma) := by rw [cell_of_row _ _ _ _ _ _ hRv]; rfl
          have x6 : wv.cell? ⟨w.heap.size, 6, none⟩ = some (.int .i64 0) := by rw [cell_of_row _ _ _ _ _ _ hgW]; rfl
          have z7 : wv.cell? ⟨w1.heap.size, 7, none⟩ = some (.int .i64 zsm) := by rw [cell_of_row _ _ _ _ _ _ hRv]; rfl
          have x7 : wv.cell? ⟨w.heap.size, 7, none⟩ = some (.int .i64 0) := by rw [cell_of_row _ _ _ _ _ _ hgW]; rfl
          have z8 : wv.cell? ⟨w1.heap.size, 8, none⟩ = some (.int .i64 zmf) := by rw [cell_of_row _ _ _ _ _ _ hRv]; rfl
          have x8 : wv.cell? ⟨w.heap.size, 8, none⟩ = some (.int .i64 0) := by rw [cell_of_row _ _ _ _ _ _ hgW]; rfl
          have z9 : wv.cell? ⟨w1.heap.size, 9, none⟩ = some (.int .i64 2147483648) := by rw [cell_of_row _ _ _ _ _ _ hRv]; rfl
          have x9 : wv.cell? ⟨w.heap.size, 9, none⟩ = some (.int .i64 0) := by rw [cell_of_row _ _ _ _ _ _ hgW]; rfl
          have xf : ∀ j, wv.frozen? ⟨w.heap.size, j, none⟩ = false := fun j => frozen_of_row _ _ _ _ _ hgW
          have HV := Lib.hid (show ctlV D false = .agg #[.bool (decide (0 ≤ fns)), .bool (decide (0 ≤ fnc)), .bool (decide (0 ≤ fpr)), .bool (decide (0 ≤ fpu)), .bool (decide (0 ≤ fmu) || decide (0 ≤ fpx)), .bool (decide (0 ≤ foc)), .int .i64 zma, .int .i64 zsm, .int .i64 zmf, .int .i64 2147483648] by unfold ctlV; rw [← Kns.out, ← Knc.out, ← Kpr.out, ← Kpu.out, ← Kmu.out, ← Kpx.out, ← Koc.out, ← HZ1.out, ← HZ2.out, ← HZ3.out, HP.out]; simp)
          have HBF := Lib.hid (hB1.trans (hBv.mono hs1'))
          clear hgW
          go_wp2_with fail
          refine bodyPost_ret (v := ctlV D false) (by rw [HV.out]; simp [results, Tryd.results14, go_sem, x0, x1, x2, x3, x4, x5, x6, x7, x8, x9]) rfl ⟨?_, ?_⟩
          · unfold ctlT; rw [← show D = dirsOf (valuesOf L ccW) from HDD.out, ← show false = oldT L from HOLD.out]
          · exact ((((((((((HBF.out.setCell (p := ⟨w.heap.size, 0, none⟩) (Nat.le_refl _) _).setCell (p := ⟨w.heap.size, 1, none⟩) (Nat.le_refl _) _).setCell (p := ⟨w.heap.size, 2, none⟩) (Nat.le_refl _) _).setCell (p := ⟨w.heap.size, 3, none⟩) (Nat.le_refl _) _).setCell (p := ⟨w.heap.size, 4, none⟩) (Nat.le_refl _) _).setCell (p := ⟨w.heap.size, 5, none⟩) (Nat.le_refl _) _).setCell (p := ⟨w.heap.size, 6, none⟩) (Nat.le_refl _) _).setCell (p := ⟨w.heap.size, 7, none⟩) (Nat.le_refl _) _).setCell (p := ⟨w.heap.size, 8, none⟩) (Nat.le_refl _) _).setCell (p := ⟨w.heap.size, 9, none⟩) (Nat.le_refl _) _)
      | true =>
        rw [hhs] at e2
        obtain ⟨zz, hzz⟩ : ∃ z, z = secT y.data.toList := ⟨_, rfl⟩
        have HP := Lib.hid (show patM D = zz by unfold patM; rw [HQ.out, hzz, HY.out]; simp [hhs])
        have hsec := refSeconds_any y (w10.setCell ⟨w1.heap.size, 9, none⟩ (.int .i64 2147483648)) hys
        rw [← hzz] at hsec
        clear hhs hzz
        go_wp2_with fail
        refine hsec.mono ?_
        rintro e wq ⟨rfl, rfl⟩
        clear hsec
        have hB10s := hB9s.setCell (p := ⟨w1.heap.size, 9, none⟩) (Nat.le_refl _) (.int .i64 zz)
        have hR10s : ((w10.setCell ⟨w1.heap.size, 9, none⟩ (.int .i64 2147483648)).setCell ⟨w1.heap.size, 9, none⟩ (.int .i64 zz)).heap[w1.heap.size]? = some (.cells #[.bool (decide (0 ≤ fns)), .bool (decide (0 ≤ fnc)), .bool (decide (0 ≤ fpr)), .bool (decide (0 ≤ fpu)), .bool (decide (0 ≤ fmu) || decide (0 ≤ fpx)), .bool (decide (0 ≤ foc)), .int .i64 zma, .int .i64 zsm, .int .i64 zmf, .int .i64 zz] 28 (0, 0)) := heap_setCell_same _ _ _ _ _ _ hR9s
        have hBw := hB1.trans ((hB10s).mono hs1')
        have hBz := (hB10s).size
        have hval := HRV.out ((w10.setCell ⟨w1.heap.size, 9, none⟩ (.int .i64 2147483648)).setCell ⟨w1.heap.size, 9, none⟩ (.int .i64 zz)) hBw
        clear hBw
        go_wp2_with fail
        refine hval.mono ?_
        rintro e wv ⟨vv, rfl, hownv, hbv⟩
        have hbv' := hbv.mono hBz
        have hBv := (hB10s).trans hbv'
        have hRv := (hbv.block w1.heap.size (Array.getElem?_eq_some_iff.1 (hR10s)).1).trans (hR10s)
        obtain ⟨pz, cz, rfl, _, _, _, _⟩ := hownv.shape rfl
        clear hval hownv hbv hbv' hBz
        by_cases hv0 : (valuesOf L ccW).length = 0
        · have hvi : (((valuesOf L ccW).length : Int) == 0) = true := by rw [hv0]; rfl
          have hhas := HRH.out wv (hB1.trans (hBv.mono hs1'))
          have ho : old = (tokensOf L pgW).contains ncW := by
            rw [HOLD.out]; unfold oldT
            rw [List.isEmpty_iff.2 (List.length_eq_zero_iff.1 hv0), Bool.true_and]
          rw [← ho] at hhas
          have hBvs := hBv.size
          clear ho
          go_wp2_with fail
          refine hhas.mono ?_
          rintro e wh ⟨rfl, hbh⟩
          have hBh := hBv.trans (hbh.mono hBvs)
          have hRh := (hbh.block w1.heap.size (Array.getElem?_eq_some_iff.1 hRv).1).trans hRv
          clear hhas hbh hBv hRv
          cases old with
          | true =>
            have k1 : wh.cell? ⟨w1.heap.size, 1, none⟩ = some (.bool (decide (0 ≤ fnc))) := by rw [cell_of_row _ _ _ _ _ _ hRh]; rfl
            have kf : ∀ j, wh.frozen? ⟨w1.heap.size, j, none⟩ = false := fun j => frozen_of_row _ _ _ _ _ hRh
            have hBs := hBh.setCell (p := ⟨w1.heap.size, 1, none⟩) (Nat.le_refl _) (.bool true)
            have hRs : (wh.setCell ⟨w1.heap.size, 1, none⟩ (.bool true)).heap[w1.heap.size]? = some (.cells #[.bool (decide (0 ≤ fns)), .bool true, .bool (decide (0 ≤ fpr)), .bool (decide (0 ≤ fpu)), .bool (decide (0 ≤ fmu) || decide (0 ≤ fpx)), .bool (decide (0 ≤ foc)), .int .i64 zma, .int .i64 zsm, .int .i64 zmf, .int .i64 zz] 28 (0, 0)) := heap_setCell_same _ _ _ _ _ _ hRh
            have hgW := (hBs.block w.heap.size (by omega)).trans hg1
            have z0 : (wh.setCell ⟨w1.heap.size, 1, none⟩ (.bool true)).cell? ⟨w1.heap.size, 0, none⟩ = some (.bool (decide (0 ≤ fns))) := by rw [cell_of_row _ _ _ _ _ _ hRs]; rfl
            have x0 : (wh.setCell ⟨w1.heap.size, 1, none⟩ (.bool true)).cell? ⟨w.heap.size, 0, none⟩ = some (.bool false) := by rw [cell_of_row _ _ _ _ _ _ hgW]; rfl
            have z1 : (wh.setCell ⟨w1.heap.size, 1, none⟩ (.bool true)).cell? ⟨w1.heap.size, 1, none⟩ = some (.bool true) := by rw [cell_of_row _ _ _ _ _ _ hRs]; rfl
            have x1 : (wh.setCell ⟨w1.heap.size, 1, none⟩ (.bool true)).cell? ⟨w.heap.size, 1, none⟩ = some (.bool false) := by rw [cell_of_row _ _ _ _ _ _ hgW]; rfl
            have z2 : (wh.setCell ⟨w1.heap.size, 1, none⟩ (.bool true)).cell? ⟨w1.heap.size, 2, none⟩ = some (.bool (decide (0 ≤ fpr))) := by rw [cell_of_row _ _ _ _ _ _ hRs]; rfl
            have x2 : (wh.setCell ⟨w1.heap.size, 1, none⟩ (.bool true)).cell? ⟨w.heap.size, 2, none⟩ = some (.bool false) := by rw [cell_of_row _ _ _ _ _ _ hgW]; rfl
            have z3 : (wh.setCell ⟨w1.heap.size, 1, none⟩ (.bool true)).cell? ⟨w1.heap.size, 3, none⟩ = some (.bool (decide (0 ≤ fpu))) := by rw [cell_of_row _ _ _ _ _ _ hRs]; rfl
            have x3 : (wh.setCell ⟨w1.heap.size, 1, none⟩ (.bool true)).cell? ⟨w.heap.size, 3, none⟩ = some (.bool false) := by rw [cell_of_row _ _ _ _ _ _ hgW]; rfl
            have z4 : (wh.setCell ⟨w1.heap.size, 1, none⟩ (.bool true)).cell? ⟨w1.heap.size, 4, none⟩ = some (.bool (decide (0 ≤ fmu) || decide (0 ≤ fpx))) := by rw [cell_of_row _ _ _ _ _ _ hRs]; rfl
            have x4 : (wh.setCell ⟨w1.heap.size, 1, none⟩ (.bool true)).cell? ⟨w.heap.size, 4, none⟩ = some (.bool false) := by rw [cell_of_row _ _ _ _ _ _ hgW]; rfl
            have z5 : (wh.setCell ⟨w1.heap.size, 1, none⟩ (.bool true)).cell? ⟨w1.heap.size, 5, none⟩ = some (.bool (decide (0 ≤ foc))) := by rw [cell_of_row _ _ _ _ _ _ hRs]; rfl
            have x5 : (wh.setCell ⟨w1.heap.size, 1, none⟩ (.bool true)).cell? ⟨w.heap.size, 5, none⟩ = some (.bool false) := by rw [cell_of_row _ _ _ _ _ _ hgW]; rfl
            have z6 : (wh.setCell ⟨w1.heap.size, 1, none⟩ (.bool true)).cell? ⟨w1.heap.size, 6, none⟩ = some (.int .i64 zma) := by rw [cell_of_row _ _ _ _ _ _ hRs]; rfl
            have x6 : (wh.setCell ⟨w1.heap.size, 1, none⟩ (.bool true)).cell? ⟨w.heap.size, 6, none⟩ = some (.int .i64 0) := by rw [cell_of_row _ _ _ _ _ _ hgW]; rfl
            have z7 : (wh.setCell ⟨w1.heap.size, 1, none⟩ (.bool true)).cell? ⟨w1.heap.size, 7, none⟩ = some (.int .i64 zsm) := by rw [cell_of_row _ _ _ _ _ _ hRs]; rfl
            have x7 : (wh.setCell ⟨w1.heap.size, 1, none⟩ (.bool true)).cell? ⟨w.heap.size, 7, none⟩ = some (.int .i64 0) := by rw [cell_of_row _ _ _ _ _ _ hgW]; rfl
            have z8 : (wh.setCell ⟨w1.heap.size, 1, none⟩ (.bool true)).cell? ⟨w1.heap.size, 8, none⟩ = some (.int .i64 zmf) := by rw [cell_of_row _ _ _ _ _ _ hRs]; rfl
            have x8 : (wh.setCell ⟨w1.heap.size, 1, none⟩ (.bool true)).cell? ⟨w.heap.size, 8, none⟩ = some (.int .i64 0) := by rw [cell_of_row _ _ _ _ _ _ hgW]; rfl
            have z9 : (wh.setCell ⟨w1.heap.size, 1, none⟩ (.bool true)).cell? ⟨w1.heap.size, 9, none⟩ = some (.int .i64 zz) := by rw [cell_of_row _ _ _ _ _ _ hRs]; rfl
            have x9 : (wh.setCell ⟨w1.heap.size, 1, none⟩ (.bool true)).cell? ⟨w.heap.size, 9, none⟩ = some (.int .i64 0) := by rw [cell_of_row _ _ _ _ _ _ hgW]; rfl
            have xf : ∀ j, (wh.setCell ⟨w1.heap.size, 1, none⟩ (.bool true)).frozen? ⟨w.heap.size, j, none⟩ = false := fun j => frozen_of_row _ _ _ _ _ hgW
            have HV := Lib.hid (show ctlV D true = .agg #[.bool (decide (0 ≤ fns)), .bool true, .bool (decide (0 ≤ fpr)), .bool (decide (0 ≤ fpu)), .bool (decide (0 ≤ fmu) || decide (0 ≤ fpx)), .bool (decide (0 ≤ foc)), .int .i64 zma, .int .i64 zsm, .int .i64 zmf, .int .i64 zz] by unfold ctlV; rw [← Kns.out, ← Knc.out, ← Kpr.out, ← Kpu.out, ← Kmu.out, ← Kpx.out, ← Koc.out, ← HZ1.out, ← HZ2.out, ← HZ3.out, HP.out]; simp)
            have HBF := Lib.hid (hB1.trans (hBs.mono hs1'))
            clear hgW
            go_wp2_with fail
            refine bodyPost_ret (v := ctlV D true) (by rw [HV.out]; simp [results, Tryd.results14, go_sem, x0, x1, x2, x3, x4, x5, x6, x7, x8, x9]) rfl ⟨?_, ?_⟩
            · unfold ctlT; rw [← show D = dirsOf (valuesOf L ccW) from HDD.out, ← show true = oldT L from HOLD.out]
            · exact ((((((((((HBF.out.setCell (p := ⟨w.heap.size, 0, none⟩) (Nat.le_refl _) _).setCell (p := ⟨w.heap.size, 1, none⟩) (Nat.le_refl _) _).setCell (p := ⟨w.heap.size, 2, none⟩) (Nat.le_refl _) _).setCell (p := ⟨w.heap.size, 3, none⟩) (Nat.le_refl _) _).setCell (p := ⟨w.heap.size, 4, none⟩) (Nat.le_refl _) _).setCell (p := ⟨w.heap.size, 5, none⟩) (Nat.le_refl _) _).setCell (p := ⟨w.heap.size, 6, none⟩) (Nat.le_refl _) _).setCell (p := ⟨w.heap.size, 7, none⟩) (Nat.le_refl _) _).setCell (p := ⟨w.heap.size, 8, none⟩) (Nat.le_refl _) _).setCell (p := ⟨w.heap.size, 9, none⟩) (Nat.le_refl _) _)
          | false =>
            have hgW := (hBh.block w.heap.size (by omega)).trans hg1
            have z0 : wh.cell? ⟨w1.heap.size, 0, none⟩ = some (.bool (decide (0 ≤ fns))) := by rw [cell_of_row _ _ _ _ _ _ hRh]; rfl
            have x0 : wh.cell? ⟨w.heap.size, 0, none⟩ = some (.bool false) := by rw [cell_of_row _ _ _ _ _ _ hgW]; rfl
            have z1 : wh.cell? ⟨w1.heap.size, 1, none⟩ = some (.bool (decide (0 ≤ fnc))) := by rw [cell_of_row _ _ _ _ _ _ hRh]; rfl
            have x1 : wh.cell? ⟨w.heap.size, 1, none⟩ = some (.bool false) := by rw [cell_of_row _ _ _ _ _ _ hgW]; rfl
            have z2 : wh.cell? ⟨w1.heap.size, 2, none⟩ = some (.bool (decide (0 ≤ fpr))) := by rw [cell_of_row _ _ _ _ _ _ hRh]; rfl
            have x2 : wh.cell? ⟨w.heap.size, 2, none⟩ = some (.bool false) := by rw [cell_of_row _ _ _ _ _ _ hgW]; rfl
            have z3 : wh.cell? ⟨w1.heap.size, 3, none⟩ = some (.bool (decide (0 ≤ fpu))) := by rw [cell_of_row _ _ _ _ _ _ hRh]; rfl
            have x3 : wh.cell? ⟨w.heap.size, 3, none⟩ = some (.bool false) := by rw [cell_of_row _ _ _ _ _ _ hgW]; rfl
            have z4 : wh.cell? ⟨w1.heap.size, 4, none⟩ = some (.bool (decide (0 ≤ fmu) || decide (0 ≤ fpx))) := by rw [cell_of_row _ _ _ _ _ _ hRh]; rfl
            have x4 : wh.cell? ⟨w.heap.size, 4, none⟩ = some (.bool false) := by rw [cell_of_row _ _ _ _ _ _ hgW]; rfl
            have z5 : wh.cell? ⟨w1.heap.size, 5, none⟩ = some (.bool (decide (0 ≤ foc))) := by rw [cell_of_row _ _ _ _ _ _ hRh]; rfl
            have x5 : wh.cell? ⟨w.heap.size, 5, none⟩ = some (.bool false) := by rw [cell_of_row _ _ _ _ _ _ hgW]; rfl
            have z6 : wh.cell? ⟨w1.heap.size, 6, none⟩ = some (.int .i64 zma) := by rw [cell_of_row _ _ _ _ _ _ hRh]; rfl
            have x6 : wh.cell? ⟨w.heap.size, 6, none⟩ = some (.int .i64 0) := by rw [cell_of_row _ _ _ _ _ _ hgW]; rfl
            have z7 : wh.cell? ⟨w1.heap.size, 7, none⟩ = some (.int .i64 zsm) := by rw [cell_of_row _ _ _ _ _ _ hRh]; rfl
            have x7 : wh.cell? ⟨w.heap.size, 7, none⟩ = some (.int .i64 0) := by rw [cell_of_row _ _ _ _ _ _ hgW]; rfl
            have z8 : wh.cell? ⟨w1.heap.size, 8, none⟩ = some (.int .i64 zmf) := by rw [cell_of_row _ _ _ _ _ _ hRh]; rfl
            have x8 : wh.cell? ⟨w.heap.size, 8, none⟩ = some (.int .i64 0) := by rw [cell_of_row _ _ _ _ _ _ hgW]; rfl
            have z9 : wh.cell? ⟨w1.heap.size, 9, none⟩ = some (.int .i64 zz) := by rw [cell_of_row _ _ _ _ _ _ hRh]; rfl
            have x9 : wh.cell? ⟨w.heap.size, 9, none⟩ = some (.int .i64 0) := by rw [cell_of_row _ _ _ _ _ _ hgW]; rfl
            have xf : ∀ j, wh.frozen? ⟨w.heap.size, j, none⟩ = false := fun j => frozen_of_row _ _ _ _ _ hgW
            have HV := Lib.hid (show ctlV D false = .agg #[.bool (decide (0 ≤ fns)), .bool (decide (0 ≤ fnc)), .bool (decide (0 ≤ fpr)), .bool (decide (0 ≤ fpu)), .bool (decide (0 ≤ fmu) || decide (0 ≤ fpx)), .bool (decide (0 ≤ foc)), .int .i64 zma, .int .i64 zsm, .int .i64 zmf, .int .i64 zz] by unfold ctlV; rw [← Kns.out, ← Knc.out, ← Kpr.out, ← Kpu.out, ← Kmu.out, ← Kpx.out, ← Koc.out, ← HZ1.out, ← HZ2.out, ← HZ3.out, HP.out]; simp)
            have HBF := Lib.hid (hB1.trans (hBh.mono hs1'))
            clear hgW
            go_wp2_with fail
            refine bodyPost_ret (v := ctlV D false) (by rw [HV.out]; simp [results, Tryd.results14, go_sem, x0, x1, x2, x3, x4, x5, x6, x7, x8, x9]) rfl ⟨?_, ?_⟩
            · unfold ctlT; rw [← show D = dirsOf (valuesOf L ccW) from HDD.out, ← show false = oldT L from HOLD.out]
            · exact ((((((((((HBF.out.setCell (p := ⟨w.heap.size, 0, none⟩) (Nat.le_refl _) _).setCell (p := ⟨w.heap.size, 1, none⟩) (Nat.le_refl _) _).setCell (p := ⟨w.heap.size, 2, none⟩) (Nat.le_refl _) _).setCell (p := ⟨w.heap.size, 3, none⟩) (Nat.le_refl _) _).setCell (p := ⟨w.heap.size, 4, none⟩) (Nat.le_refl _) _).setCell (p := ⟨w.heap.size, 5, none⟩) (Nat.le_refl _) _).setCell (p := ⟨w.heap.size, 6, none⟩) (Nat.le_refl _) _).setCell (p := ⟨w.heap.size, 7, none⟩) (Nat.le_refl _) _).setCell (p := ⟨w.heap.size, 8, none⟩) (Nat.le_refl _) _).setCell (p := ⟨w.heap.size, 9, none⟩) (Nat.le_refl _) _)
        · have hvi : (((valuesOf L ccW).length : Int) == 0) = false := by simpa using hv0
          have ho : old = false := by
            rw [HOLD.out]; unfold oldT
            cases hx : valuesOf L ccW with
            | nil => rw [hx] at hv0; exact absurd rfl hv0
            | cons x r => rfl
          subst ho
          have hgW := (hBv.block w.heap.size (by omega)).trans hg1
          have z0 : wv.cell? ⟨w1.heap.size, 0, none⟩ = some (.bool (decide (0 ≤ fns))) := by rw [cell_of_row _ _ _ _ _ _ hRv]; rfl
          have x0 : wv.cell? ⟨w.heap.size, 0, none⟩ = some (.bool false) := by rw [cell_of_row _ _ _ _ _ _ hgW]; rfl
          have z1 : wv.cell? ⟨w1.heap.size, 1, none⟩ = some (.bool (decide (0 ≤ fnc))) := by rw [cell_of_row _ _ _ _ _ _ hRv]; rfl
          have x1 : wv.cell? ⟨w.heap.size, 1, none⟩ = some (.bool false) := by rw [cell_of_row _ _ _ _ _ _ hgW]; rfl
          have z2 : wv.cell? ⟨w1.heap.size, 2, none⟩ = some (.bool (decide (0 ≤ fpr))) := by rw [cell_of_row _ _ _ _ _ _ hRv]; rfl
          have x2 : wv.cell? ⟨w.heap.size, 2, none⟩ = some (.bool false) := by rw [cell_of_row _ _ _ _ _ _ hgW]; rfl
          have z3 : wv.cell? ⟨w1.heap.size, 3, none⟩ = some (.bool (decide (0 ≤ fpu))) := by rw [cell_of_row _ _ _ _ _ _ hRv]; rfl
          have x3 : wv.cell? ⟨w.heap.size, 3, none⟩ = some (.bool false) := by rw [cell_of_row _ _ _ _ _ _ hgW]; rfl
          have z4 : wv.cell? ⟨w1.heap.size, 4, none⟩ = some (.bool (decide (0 ≤ fmu) || decide (0 ≤ fpx))) := by rw [cell_of_row _ _ _ _ _ _ hRv]; rfl
          have x4 : wv.cell? ⟨w.heap.size, 4, none⟩ = some (.bool false) := by rw [cell_of_row _ _ _ _ _ _ hgW]; rfl
          have z5 : wv.cell? ⟨w1.heap.size, 5, none⟩ = some (.bool (decide (0 ≤ foc))) := by rw [cell_of_row _ _ _ _ _ _ hRv]; rfl
          have x5 : wv.cell? ⟨w.heap.size, 5, none⟩ = some (.bool false) := by rw [cell_of_row _ _ _ _ _ _ hgW]; rfl
          have z6 : wv.cell? ⟨w1.heap.size, 6, none⟩ = some (.int .i64 zma) := by rw [cell_of_row _ _ _ _ _ _ hRv]; rfl
          have x6 : wv.cell? ⟨w.heap.size, 6, none⟩ = some (.int .i64 0) := by rw [cell_of_row _ _ _ _ _ _ hgW]; rfl
          have z7 : wv.cell? ⟨w1.heap.size, 7, none⟩ = some (.int .i64 zsm) := by rw [cell_of_row _ _ _ _ _ _ hRv]; rfl
          have x7 : wv.cell? ⟨w.heap.size, 7, none⟩ = some (.int .i64 0) := by rw [cell_of_row _ _ _ _ _ _ hgW]; rfl
          have z8 : wv.cell? ⟨w1.heap.size, 8, none⟩ = some (.int .i64 zmf) := by rw [cell_of_row _ _ _ _ _ _ hRv]; rfl
          have x8 : wv.cell? ⟨w.heap.size, 8, none⟩ = some (.int .i64 0) := by rw [cell_of_row _ _ _ _ _ _ hgW]; rfl
          have z9 : wv.cell? ⟨w1.heap.size, 9, none⟩ = some (.int .i64 zz) := by rw [cell_of_row _ _ _ _ _ _ hRv]; rfl
          have x9 : wv.cell? ⟨w.heap.size, 9, none⟩ = some (.int .i64 0) := by rw [cell_of_row _ _ _ _ _ _ hgW]; rfl
          have xf : ∀ j, wv.frozen? ⟨w.heap.size, j, none⟩ = false := fun j => frozen_of_row _ _ _ _ _ hgW
          have HV := Lib.hid (show ctlV D false = .agg #[.bool (decide (0 ≤ fns)), .bool (decide (0 ≤ fnc)), .bool (decide (0 ≤ fpr)), .bool (decide (0 ≤ fpu)), .bool (decide (0 ≤ fmu) || decide (0 ≤ fpx)), .bool (decide (0 ≤ foc)), .int .i64 zma, .int .i64 zsm, .int .i64 zmf, .int .i64 zz] by unfold ctlV; rw [← Kns.out, ← Knc.out, ← Kpr.out, ← Kpu.out, ← Kmu.out, ← Kpx.out, ← Koc.out, ← HZ1.out, ← HZ2.out, ← HZ3.out, HP.out]; simp)
          have HBF := Lib.hid (hB1.trans (hBv.mono hs1'))
          clear hgW
          go_wp2_with fail
          refine bodyPost_ret (v := ctlV D false) (by rw [HV.out]; simp [results, Tryd.results14, go_sem, x0, x1, x2, x3, x4, x5, x6, x7, x8, x9]) rfl ⟨?_, ?_⟩
          · unfold ctlT; rw [← show D = dirsOf (valuesOf L ccW) from HDD.out, ← show false = oldT L from HOLD.out]
          · exact ((((((((((HBF.out.setCell (p := ⟨w.heap.size, 0, none⟩) (Nat.le_refl _) _).setCell (p := ⟨w.heap.size, 1, none⟩) (Nat.le_refl _) _).setCell (p := ⟨w.heap.size, 2, none⟩) (Nat.le_refl _) _).setCell (p := ⟨w.heap.size, 3, none⟩) (Nat.le_refl _) _).setCell (p := ⟨w.heap.size, 4, none⟩) (Nat.le_refl _) _).setCell (p := ⟨w.heap.size, 5, none⟩) (Nat.le_refl _) _).setCell (p := ⟨w.heap.size, 6, none⟩) (Nat.le_refl _) _).setCell (p := ⟨w.heap.size, 7, none⟩) (Nat.le_refl _) _).setCell (p := ⟨w.heap.size, 8, none⟩) (Nat.le_refl _) _).setCell (p := ⟨w.heap.size, 9, none⟩) (Nat.le_refl _) _)
end Go.Proofs.YtnengooipemffaaDoor
