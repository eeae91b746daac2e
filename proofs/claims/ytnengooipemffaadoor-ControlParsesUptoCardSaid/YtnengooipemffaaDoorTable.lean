/-
  The table of directives: has, number, patience.
-/
import Derived.Test.YtnengooipemffaaDoorMap
import Derived.Test.YtnengooipemffaaDoorSecs
import Derived.Test.YtnengooipemffaaDoorTexts
namespace Go.Proofs.YtnengooipemffaaDoor
open Go.RowKit

def bigOK (T : List Ent) : Prop := ∀ x ∈ T, x.1.length ≤ 140737488351232 ∧ x.2.1.length ≤ 140737488351232
theorem bigOK_keys {T : List Ent} (h : bigOK T) : ∀ x ∈ T, x.1.length ≤ maxLen := fun x hx => by have := (h x hx).1; unfold maxLen; omega

set_option maxHeartbeats 2000000 in
set_option maxRecDepth 100000 in
/-- has, at the closure: is the word a key? -/
theorem hasC_any (T : List Ent) (b : Nat) (k : ByteArray) (hk : k.size ≤ 140737488351232) (w : World) (hM : OwnM w b T) (hT : bigOK T) (bt : Nat) (h0 : w.cell? ⟨bt, 0, none⟩ = some (.map (some b))) :
    Calls Tryd.prog 46 #[.string k, .pointer (some ⟨bt, 0, none⟩)] w fun e w' => e = .returned (.bool (lookM T k.data.toList).isSome) ∧ Below w.heap.size w w' := by
  have hl := run_lookM hM (bigOK_keys hT) k (by unfold maxLen; omega)
  obtain ⟨va, vc, hv⟩ : ∃ (va : ByteArray) (vc : Bool), argV ((lookM T k.data.toList).getD ([], false)) = .agg #[.string va, .bool vc] := ⟨_, _, rfl⟩
  obtain ⟨o, ho⟩ : ∃ o, o = (lookM T k.data.toList).isSome := ⟨_, rfl⟩
  rw [hv, ← ho] at hl
  rw [← ho]
  clear hv ho
  go_enter Tryd.func46, Tryd.ntmps46
  go_wp2_with fail
  go_ret
  exact ⟨rfl, (Below.refl _ w).alloc (Nat.le_refl _) _⟩

def hasM (T : List Ent) (N : List (List UInt8)) : Bool := N.any fun n => (lookM T n).isSome
def hasI (T : List Ent) (N : List (List UInt8)) : Int := if N.findIdx (fun n => (lookM T n).isSome) < N.length then (N.findIdx (fun n => (lookM T n).isSome) : Int) else -1
theorem hasI_at (T : List Ent) (N : List (List UInt8)) (k : Nat) (h : k < N.length) (h1 : (lookM T N[k]).isSome = true) (h0 : ∀ j, (hj : j < N.length) → j < k → (lookM T N[j]).isSome = false) : hasI T N = k := by
  have e : N.findIdx (fun n => (lookM T n).isSome) = k := by
    rw [List.findIdx_eq h]
    exact ⟨h1, fun j hj => h0 j (by omega) hj⟩
  unfold hasI
  rw [e, if_pos h]
theorem hasI_none (T : List Ent) (N : List (List UInt8)) (h0 : ∀ j, (hj : j < N.length) → (lookM T N[j]).isSome = false) : hasI T N = -1 := by
  unfold hasI
  rw [if_neg]
  intro h
  have := List.findIdx_getElem (p := fun n => (lookM T n).isSome) (xs := N) (w := h)
  rw [h0 _ h] at this
  cases this
theorem hasI_iff (T : List Ent) (N : List (List UInt8)) : decide (0 ≤ hasI T N) = hasM T N := by
  unfold hasI hasM
  rw [Bool.eq_iff_iff, decide_eq_true_iff, List.any_eq_true, ← List.findIdx_lt_length]
  split
  · rename_i h; exact ⟨fun _ => h, fun _ => by omega⟩
  · rename_i h; exact ⟨fun h2 => by omega, fun h2 => absurd h2 h⟩

set_option maxHeartbeats 2000000 in
theorem indexM_any (T : List Ent) (b : Nat) (hT : bigOK T) (N : List (List UInt8)) (p : Option Addr) (n c : Nat) (hn : N.length = n) (hr : n ≤ 1000000) (w : World) (hN : ∀ x ∈ N, x.length ≤ 140737488351232)
    (hM : OwnM w b T) (bt : Nat) (h0 : w.cell? ⟨bt, 0, none⟩ = some (.map (some b))) (h : InS w p N) :
    Calls Tryd.prog 62 #[.slice p n c, .func (.func 46) #[] #[.pointer (some ⟨bt, 0, none⟩)]] w fun e w' => e = .returned (.int .i64 (hasI T N)) ∧ Below w.heap.size w w' := by
  subst hn
  have HN := Lib.hid hN
  have HT := Lib.hid hT
  clear hN hT
  go_enter Tryd.func62, Tryd.ntmps62
  go_wp2_with fail
  go_loopw [8] (fun i wr => ∃ k : Nat, k ≤ N.length ∧ i = .int .i64 k ∧ Below w.heap.size w wr ∧ ∀ j, (hj : j < N.length) → j < k → (lookM T N[j]).isSome = false) (fun i _ => N.length - (intOf i).toNat)
  case atStart => exact ⟨0, by omega, rfl, Below.refl _ _, fun j _ h => absurd h (Nat.not_lt_zero j)⟩
  case round =>
    obtain ⟨k, hk, rfl, hb, hno⟩ := hrel
    have hbs := hb.size
    have HO := Lib.hid hno
    clear hno
    by_cases hlt : k < N.length
    · obtain ⟨b', o, rfl, x, hck, hx⟩ := (h.below hb).at hlt
      have hxs : x.size ≤ 140737488351232 := by rw [← size_list, hx]; exact HN.out _ (List.getElem_mem hlt)
      have HX := Lib.hid hx
      have g0 := (hb.cell (World.block_lt_of_cell? w _ h0)).trans h0
      have hM' := hM.below hb
      clear hx
      go_wp2_with fail
      refine (hasC_any T b x hxs _ hM' HT.out bt g0).mono ?_
      rintro e w1 ⟨rfl, hb1⟩
      rw [HX.out]
      cases hd : (lookM T N[k]).isSome
      · have HD := Lib.hid hd
        clear hd
        go_wp2_with fail
        go_roundw
        case rel =>
          refine ⟨k + 1, by omega, by go_num, hb.trans (hb1.mono hbs), fun j hj hjk => ?_⟩
          by_cases h : j = k
          · subst h; exact HD.out
          · exact HO.out j hj (by omega)
        case measure => simp [intOf]; omega
      · have HR := Lib.hid (hasI_at T N k hlt hd HO.out)
        clear hd
        go_wp2_with fail
        go_ret
        exact ⟨by rw [HR.out]; rfl, hb.trans (hb1.mono hbs)⟩
    · obtain rfl : k = N.length := by omega
      have HR := Lib.hid (hasI_none T N (fun j hj => HO.out j hj hj))
      go_wp2_with fail
      go_ret
      exact ⟨by rw [HR.out]; rfl, hb⟩

set_option maxHeartbeats 2000000 in
theorem containsM_any (T : List Ent) (b : Nat) (hT : bigOK T) (N : List (List UInt8)) (p : Option Addr) (n c : Nat) (hn : N.length = n) (hr : n ≤ 1000000) (w : World) (hN : ∀ x ∈ N, x.length ≤ 140737488351232)
    (hM : OwnM w b T) (bt : Nat) (h0 : w.cell? ⟨bt, 0, none⟩ = some (.map (some b))) (h : InS w p N) :
    Calls Tryd.prog 45 #[.slice p n c, .func (.func 46) #[] #[.pointer (some ⟨bt, 0, none⟩)]] w fun e w' => e = .returned (.bool (hasM T N)) ∧ Below w.heap.size w w' := by
  have hcall := indexM_any T b hT N p n c hn hr w hN hM bt h0 h
  have HI := Lib.hid (hasI_iff T N)
  clear hN h0 h hT hM
  obtain ⟨z, hz⟩ : ∃ z, z = hasI T N := ⟨_, rfl⟩
  rw [← hz] at hcall
  have HZ := Lib.hid hz
  clear hz
  go_enter Tryd.func45, Tryd.ntmps45
  go_wp2_with fail
  refine hcall.mono ?_
  rintro e w1 ⟨rfl, hb⟩
  go_wp2_with fail
  go_ret
  refine ⟨ret_bool ?_, hb⟩
  rw [← HI.out, ← HZ.out]

set_option maxHeartbeats 2000000 in
/-- is one of the words a key? -/
theorem has_any (T : List Ent) (b : Nat) (hT : bigOK T) (N : List (List UInt8)) (p : Option Addr) (n c : Nat) (hn : N.length = n) (hr : n ≤ 1000000) (w : World) (hN : ∀ x ∈ N, x.length ≤ 140737488351232)
    (hM : OwnM w b T) (h : InS w p N) :
    Calls Tryd.prog 23 #[.map (some b), .slice p n c] w fun e w' => e = .returned (.bool (hasM T N)) ∧ Below w.heap.size w w' := by
  have hb0 := (Below.refl w.heap.size w).alloc (Nat.le_refl _) (.cells #[.map (some b)] 44)
  have g0 : (w.alloc (.cells #[.map (some b)] 44)).cell? ⟨w.heap.size, 0, none⟩ = some (.map (some b)) := by rw [cell_of_row _ _ _ _ _ _ (heap_alloc_new w _)]; rfl
  have hcall := containsM_any T b hT N p n c hn hr (w.alloc (.cells #[.map (some b)] 44)) hN (hM.below ((Below.refl _ w).alloc (Nat.le_refl _) _)) w.heap.size g0 (h.alloc _)
  clear hN hT hM h
  go_enter Tryd.func23, Tryd.ntmps23
  go_wp2_with fail
  refine hcall.mono ?_
  rintro e w1 ⟨rfl, hb⟩
  go_wp2_with fail
  go_ret
  exact ⟨rfl, hb0.trans (hb.mono (by simp))⟩

def numM (T : List Ent) (k : List UInt8) : Int := match lookM T k with | none => -1 | some x => max 0 (secT x.1)
def staleL : List UInt8 := [109, 97, 120, 45, 115, 116, 97, 108, 101]
def patM (T : List Ent) : Int := match lookM T staleL with | none => -1 | some x => if x.2 = true then secT x.1 else 2147483648
theorem secT_range (l : List UInt8) : -1 ≤ secT l ∧ secT l ≤ 2147483648 := by
  have := secN_le l
  unfold secT
  split
  · omega
  · split <;> omega

set_option maxHeartbeats 2000000 in
set_option maxRecDepth 100000 in
theorem number_any (T : List Ent) (b : Nat) (hT : bigOK T) (k : ByteArray) (hk : k.size ≤ 140737488351232) (w : World) (hM : OwnM w b T) :
    Calls Tryd.prog 24 #[.map (some b), .string k] w fun e w' => e = .returned (.int .i64 (numM T k.data.toList)) ∧ Below w.heap.size w w' := by
  have hl := run_lookM hM (bigOK_keys hT) k (by unfold maxLen; omega)
  have HT := Lib.hid (fun x (h : lookM T k.data.toList = some x) => show x.1.length ≤ 140737488351232 by
    unfold lookM at h
    obtain ⟨y, hy, e⟩ := Option.map_eq_some_iff.1 h
    rw [← e]
    exact (hT y (List.mem_of_find?_eq_some hy)).2)
  cases hx : lookM T k.data.toList with
  | none =>
    have HR := Lib.hid (show numM T k.data.toList = -1 by unfold numM; rw [hx])
    rw [hx] at hl
    have e1 : argV (Option.getD none ([], false)) = .agg #[.string ⟨#[]⟩, .bool false] := rfl
    rw [e1, show (none : Option (List UInt8 × Bool)).isSome = false from rfl] at hl
    clear hx hT hM
    go_enter Tryd.func24, Tryd.ntmps24
    go_wp2_with fail
    go_ret
    exact ⟨by rw [HR.out]; rfl, (Below.refl _ w).alloc (Nat.le_refl _) _⟩
  | some x =>
    have HR := Lib.hid (show numM T k.data.toList = max 0 (secT x.1) by unfold numM; rw [hx])
    have hs := HT.out x hx
    obtain ⟨xa, xc⟩ := x
    rw [hx] at hl
    have e1 : argV (Option.getD (some (xa, xc)) ([], false)) = .agg #[.string ⟨xa.toArray⟩, .bool xc] := rfl
    rw [e1, show (some (xa, xc)).isSome = true from rfl] at hl
    have hsz : (⟨xa.toArray⟩ : ByteArray).size ≤ 140737488351232 := by rw [← size_list]; exact hs
    have hsec := fun W => seconds_any ⟨xa.toArray⟩ W hsz
    have HSEC := Lib.hid hsec
    have hrg := secT_range xa
    obtain ⟨z, hz⟩ : ∃ z, z = secT xa := ⟨_, rfl⟩
    have HZ := Lib.hid hz
    rw [← hz] at hrg
    clear hx hT hM hsec hz hs hsz
    go_enter Tryd.func24, Tryd.ntmps24
    go_wp2_with fail
    refine (HSEC.out _).mono ?_
    rw [show secT (⟨xa.toArray⟩ : ByteArray).data.toList = z from HZ.out.symm]
    rintro e w1 ⟨rfl, hb⟩
    go_wp2_with fail
    go_ret
    refine ⟨?_, ((Below.refl _ w).alloc (Nat.le_refl _) _).trans (hb.mono (by simp))⟩
    rw [HR.out, ← HZ.out]
    rfl

set_option maxHeartbeats 2000000 in
set_option maxRecDepth 100000 in
theorem patience_any (T : List Ent) (b : Nat) (hT : bigOK T) (w : World) (hM : OwnM w b T) :
    Calls Tryd.prog 25 #[.map (some b)] w fun e w' => e = .returned (.int .i64 (patM T)) ∧ Below w.heap.size w w' := by
  have hl := run_lookM hM (bigOK_keys hT) ⟨staleL.toArray⟩ (by unfold maxLen; decide)
  rw [show (⟨staleL.toArray⟩ : ByteArray).data.toList = staleL from rfl] at hl
  have HT := Lib.hid (fun x (h : lookM T staleL = some x) => show x.1.length ≤ 140737488351232 by
    unfold lookM at h
    obtain ⟨y, hy, e⟩ := Option.map_eq_some_iff.1 h
    rw [← e]
    exact (hT y (List.mem_of_find?_eq_some hy)).2)
  cases hx : lookM T staleL with
  | none =>
    have HR := Lib.hid (show patM T = -1 by unfold patM; rw [hx])
    rw [hx] at hl
    have e1 : argV (Option.getD none ([], false)) = .agg #[.string ⟨#[]⟩, .bool false] := rfl
    rw [e1, show (none : Option (List UInt8 × Bool)).isSome = false from rfl, show staleL.toArray = #[109, 97, 120, 45, 115, 116, 97, 108, 101] from rfl] at hl
    clear hx hT hM
    go_enter Tryd.func25, Tryd.ntmps25
    go_wp2_with fail
    go_ret
    exact ⟨by rw [HR.out]; rfl, (Below.refl _ w).alloc (Nat.le_refl _) _⟩
  | some x =>
    have hs := HT.out x hx
    obtain ⟨xa, xc⟩ := x
    have HR := Lib.hid (show patM T = if xc = true then secT xa else 2147483648 by unfold patM; rw [hx])
    rw [hx] at hl
    have e1 : argV (Option.getD (some (xa, xc)) ([], false)) = .agg #[.string ⟨xa.toArray⟩, .bool xc] := rfl
    rw [e1, show (some (xa, xc)).isSome = true from rfl, show staleL.toArray = #[109, 97, 120, 45, 115, 116, 97, 108, 101] from rfl] at hl
    have hsz : (⟨xa.toArray⟩ : ByteArray).size ≤ 140737488351232 := by rw [← size_list]; exact hs
    have HSEC := Lib.hid (fun W => seconds_any ⟨xa.toArray⟩ W hsz)
    obtain ⟨z, hz⟩ : ∃ z, z = secT xa := ⟨_, rfl⟩
    have HZ := Lib.hid hz
    clear hx hT hM hz hs hsz
    cases xc with
    | false =>
      go_enter Tryd.func25, Tryd.ntmps25
      go_wp2_with fail
      go_ret
      exact ⟨by rw [HR.out]; rfl, (Below.refl _ w).alloc (Nat.le_refl _) _⟩
    | true =>
      go_enter Tryd.func25, Tryd.ntmps25
      go_wp2_with fail
      refine (HSEC.out _).mono ?_
      rw [show secT (⟨xa.toArray⟩ : ByteArray).data.toList = z from HZ.out.symm]
      rintro e w1 ⟨rfl, hb⟩
      go_wp2_with fail
      go_ret
      refine ⟨?_, ((Below.refl _ w).alloc (Nat.le_refl _) _).trans (hb.mono (by simp))⟩
      rw [HR.out, ← HZ.out]
      simp
end Go.Proofs.YtnengooipemffaaDoor
