/-
  Lists of fields: Values.
-/
import Derived.Test.YtnibecboimgljaaDoorFieldsA
namespace Go.Proofs.YtnibecboimgljaaDoor
open Go.RowKit

def hasName (n : List UInt8) (x : Pair) : Bool := decide (fold x.1 = fold n)
/-- all values of a name -/
def valuesOf (L : List Pair) (n : List UInt8) : List (List UInt8) := (L.filter (hasName n)).map (·.2)
theorem values_snoc (L : List Pair) (n : List UInt8) (k : Nat) (h : k < L.length) : valuesOf (L.take (k + 1)) n = valuesOf (L.take k) n ++ (if hasName n L[k] then [L[k].2] else []) := by
  unfold valuesOf
  rw [List.take_succ_eq_append_getElem h, List.filter_append, List.map_append]
  cases hp : hasName n L[k] <;> simp [hp]
theorem values_length (L : List Pair) (n : List UInt8) : (valuesOf L n).length ≤ L.length := by
  unfold valuesOf; rw [List.length_map]; exact List.length_filter_le _ _
theorem values_lenk (L : List Pair) (n : List UInt8) (k : Nat) : (valuesOf (L.take k) n).length ≤ k := Nat.le_trans (values_length _ _) (List.length_take_le _ _)
theorem values_mem (L : List Pair) (n v : List UInt8) (h : v ∈ valuesOf L n) : ∃ x ∈ L, x.2 = v := by
  unfold valuesOf at h
  obtain ⟨x, hx, rfl⟩ := List.mem_map.1 h
  exact ⟨x, (List.mem_filter.1 hx).1, rfl⟩

set_option maxHeartbeats 4000000 in
theorem refValues_any (L : List Pair) (p : Option Addr) (n c : Nat) (hn : L.length = n) (hr : n ≤ 4400000000000) (nm : ByteArray) (hnm : nm.size ≤ 140737488351232) (hsz : ∀ x ∈ L, x.1.length ≤ 140737488351232) (w : World) (h : In2 w p L) :
    Calls Tryd.prog 36 #[.slice p n c, .string nm] w fun e w' => ∃ v, e = .returned v ∧ OwnS w' w.heap.size v (valuesOf L nm.data.toList) ∧ Below w.heap.size w w' := by
  subst hn
  have HSZ := Lib.hid hsz
  clear hsz
  go_enter Tryd.func36, Tryd.ntmps36
  go_wp2_with fail
  go_loopw [5, 6] (fun v i wr => ∃ k : Nat, k ≤ L.length ∧ i = .int .i64 k ∧ OwnS wr w.heap.size v (valuesOf (L.take k) nm.data.toList) ∧ Below w.heap.size w wr) (fun _ i _ => L.length - (intOf i).toNat)
  case atStart => exact ⟨0, by omega, rfl, OwnS.made w, (Below.refl _ _).alloc (Nat.le_refl _) _⟩
  case round =>
    obtain ⟨k, hk, rfl, hown, hb⟩ := hrel
    have hbs := hb.size
    have hvl := values_lenk L nm.data.toList k
    by_cases hlt : k < L.length
    · obtain ⟨b, o, rfl, x, y, g1, g2, g3, g4⟩ := (h.below hb).at hlt
      have hxs : x.size ≤ 140737488351232 := by rw [← size_list, g3]; exact HSZ.out _ (List.getElem_mem hlt)
      have HV := Lib.hid (values_snoc L nm.data.toList k hlt)
      have hhn : hasName nm.data.toList L[k] = decide (fold x.data.toList = fold nm.data.toList) := by unfold hasName; rw [g3]
      have HN := Lib.hid hhn
      have HY := Lib.hid g4
      clear g3 g4 hhn
      go_wp2_with fail
      refine (lower_any x _ hxs).mono ?_
      rintro e w1 ⟨rfl, hb1⟩
      have hs1 := hb1.size
      go_wp2_with fail
      refine (lower_any nm _ hnm).mono ?_
      rintro e w2 ⟨rfl, hb2⟩
      have hs2 := hb2.size
      obtain ⟨fx, hfx⟩ : ∃ f : ByteArray, f = ⟨(fold x.data.toList).toArray⟩ := ⟨_, rfl⟩
      obtain ⟨fn, hfn⟩ : ∃ f : ByteArray, f = ⟨(fold nm.data.toList).toArray⟩ := ⟨_, rfl⟩
      have hfxd : fx.data.toList = fold x.data.toList := by rw [hfx]
      have hfnd : fn.data.toList = fold nm.data.toList := by rw [hfn]
      rw [← hfx, ← hfn]
      have hR : (fx.toList == fn.toList) = hasName nm.data.toList L[k] := by rw [strs_eq, hfxd, hfnd, HN.out]
      have hown2 := (hown.below hb1).below hb2
      have hb2' := (hb.trans (hb1.mono hbs)).trans (hb2.mono (by omega))
      have g2' := cell_keep (cell_keep g2 hb1) hb2
      have g1' := cell_keep (cell_keep g1 hb1) hb2
      clear hfx hfn hfxd hfnd g1 g2
      cases hhas : hasName nm.data.toList L[k]
      · rw [hhas] at hR
        have HH := Lib.hid hhas
        clear hhas
        go_wp2_with fail
        go_roundw
        case rel => exact ⟨k + 1, by omega, by go_num, by rw [HV.out, HH.out]; simpa using hown2, hb2'⟩
        case measure => simp [intOf]; omega
      · rw [hhas] at hR
        have HH := Lib.hid hhas
        clear hhas
        have hin2 := InS.one w2 y
        rw [HY.out] at hin2
        have hown3 := hown2.alloc (.cells #[.string y] 9)
        go_wp2_with (at_builtin; refine wpList_appendS rfl _ _ rfl w.heap.size _ _ rfl hown3 _ _ _ _ rfl rfl hin2 (by simp; omega) (by simp; omega) ?_; intro v4 w4 hown4 hgrow4 _)
        go_roundw
        case rel => exact ⟨k + 1, by omega, by go_num, by rw [HV.out, if_pos HH.out]; exact hown4, OwnS.grown (hb2'.alloc (by omega) _) (by simp; omega) hown3 hgrow4⟩
        case measure => simp [intOf]; omega
    · obtain rfl : k = L.length := by omega
      go_wp2_with fail
      go_ret
      rw [List.take_length] at hown
      exact ⟨_, rfl, hown, hb⟩

set_option maxHeartbeats 4000000 in
theorem values_any (L : List Pair) (p : Option Addr) (n c : Nat) (hn : L.length = n) (hr : n ≤ 4400000000000) (nm : ByteArray) (hnm : nm.size ≤ 140737488351232) (hsz : ∀ x ∈ L, x.1.length ≤ 140737488351232) (w : World) (h : In2 w p L) :
    Calls Tryd.prog 31 #[.slice p n c, .string nm] w fun e w' => ∃ v, e = .returned v ∧ OwnS w' w.heap.size v (valuesOf L nm.data.toList) ∧ Below w.heap.size w w' := by
  subst hn
  have HSZ := Lib.hid hsz
  clear hsz
  go_enter Tryd.func31, Tryd.ntmps31
  go_wp2_with fail
  go_loopw [5, 10] (fun v i wr => ∃ k : Nat, k ≤ L.length ∧ i = .int .i64 k ∧ OwnS wr w.heap.size v (valuesOf (L.take k) nm.data.toList) ∧ Below w.heap.size w wr) (fun _ i _ => L.length - (intOf i).toNat)
  case atStart => exact ⟨0, by omega, rfl, OwnS.nil _ _, Below.refl _ _⟩
  case round =>
    obtain ⟨k, hk, rfl, hown, hb⟩ := hrel
    have hbs := hb.size
    have hvl := values_lenk L nm.data.toList k
    by_cases hlt : k < L.length
    · obtain ⟨b, o, rfl, x, y, g1, g2, g3, g4⟩ := (h.below hb).at hlt
      have hxs : x.size ≤ 140737488351232 := by rw [← size_list, g3]; exact HSZ.out _ (List.getElem_mem hlt)
      have HV := Lib.hid (values_snoc L nm.data.toList k hlt)
      have hhn : hasName nm.data.toList L[k] = decide (fold x.data.toList = fold nm.data.toList) := by unfold hasName; rw [g3]
      have HN := Lib.hid hhn
      have HY := Lib.hid g4
      clear g3 g4 hhn
      have hb0 := hb.alloc hbs (.cells #[.string x, .string y] 35)
      have hown0 := hown.alloc (.cells #[.string x, .string y] 35)
      have hcb : (wr.alloc (.cells #[.string x, .string y] 35)).cell? ⟨wr.heap.size, 1, none⟩ = some (.string y) := by
        rw [cell_of_row _ _ _ _ _ _ (heap_alloc_new wr (.cells #[.string x, .string y] 35))]; rfl
      go_wp2_with fail
      refine (is_any x y nm _ hxs hnm).mono ?_
      rintro e w2 ⟨rfl, hb2⟩
      have hs2 := hb2.size
      simp only [World.size_alloc] at hs2
      have hown2 := hown0.below hb2
      have hb2' := hb0.trans (hb2.mono (by simp; omega))
      have hcy := cell_keep hcb hb2
      rw [← HN.out]
      clear hcb g1 g2
      cases hhas : hasName nm.data.toList L[k]
      · have HH := Lib.hid hhas
        clear hhas
        go_wp2_with fail
        go_roundw
        case rel => exact ⟨k + 1, by omega, by go_num, by rw [HV.out, HH.out]; simpa using hown2, hb2'⟩
        case measure => simp [intOf]; omega
      · have HH := Lib.hid hhas
        clear hhas
        have hin2 := InS.one w2 y
        rw [HY.out] at hin2
        have hown3 := hown2.alloc (.cells #[.string y] 9)
        go_wp2_with (at_builtin; refine wpList_appendS rfl _ _ rfl w.heap.size _ _ rfl hown3 _ _ _ _ rfl rfl hin2 (by simp; omega) (by simp; omega) ?_; intro v4 w4 hown4 hgrow4 _)
        go_roundw
        case rel => exact ⟨k + 1, by omega, by go_num, by rw [HV.out, if_pos HH.out]; exact hown4, OwnS.grown (hb2'.alloc (by omega) _) (by simp; omega) hown3 hgrow4⟩
        case measure => simp [intOf]; omega
    · obtain rfl : k = L.length := by omega
      go_wp2_with fail
      go_ret
      rw [List.take_length] at hown
      exact ⟨_, rfl, hown, hb⟩
end Go.Proofs.YtnibecboimgljaaDoor
