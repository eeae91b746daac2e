/-
  Show: any number in decimal digits.
-/
import Derived.Test.YtmllcfkgkkbkpaaPk2
import Derived.Test.YtmllcfkgkkbkpaaPk3
namespace Go.Proofs.Ytmllcfkgkkbkpaa
open Go.RowKit
theorem i64_isX (n : Int) : IntKind.i64.wrap n = RowKit.wrap64 n := by
  rw [IntKind.wrap_i64]
  unfold RowKit.wrap64
  rfl
theorem wrap_abs (v : Int) : (IntKind.i64.wrap v).natAbs ≤ v.natAbs := by
  rw [IntKind.wrap_i64]
  omega
theorem wrap_small (v : Int) : (IntKind.i64.wrap v).natAbs ≤ 9223372036854775808 := by
  rw [IntKind.wrap_i64]
  omega
theorem tdiv_abs (v : Int) : (Int.tdiv v 10).natAbs = v.natAbs / 10 := by rw [Int.natAbs_tdiv]; rfl
theorem tmod_abs (v : Int) : (Int.tmod v 10).natAbs = v.natAbs % 10 := by rw [Int.natAbs_tmod]; rfl
/-- A number's digits, the least first. -/
def dgI (v : Int) : List UInt8 := if h : v = 0 then [] else ubyte (48 + ((v.natAbs % 10 : Nat) : Int)) :: dgI (IntKind.i64.wrap (Int.tdiv v 10))
termination_by v.natAbs
decreasing_by
  have := wrap_abs (Int.tdiv v 10)
  have := tdiv_abs v
  omega
theorem dgI_zero : dgI 0 = [] := by rw [dgI]; rfl
theorem dgI_next (v : Int) (h : v ≠ 0) : dgI v = ubyte (48 + ((v.natAbs % 10 : Nat) : Int)) :: dgI (IntKind.i64.wrap (Int.tdiv v 10)) := by rw [dgI, dif_neg h]
theorem dgI_len (n : Nat) : ∀ v : Int, v.natAbs < 10 ^ n → (dgI v).length ≤ n := by
  induction n with
  | zero => intro v h; have : v = 0 := by simp at h; omega
            subst this; rw [dgI_zero]; simp
  | succ n ih =>
    intro v h
    by_cases h0 : v = 0
    · subst h0; rw [dgI_zero]; simp
    · rw [dgI_next v h0, List.length_cons]
      have h1 := wrap_abs (Int.tdiv v 10)
      have h2 := tdiv_abs v
      have := ih (IntKind.i64.wrap (Int.tdiv v 10)) (by rw [Nat.pow_succ] at h; omega)
      omega
theorem dgI_le (v : Int) : (dgI v).length ≤ 20 := by
  by_cases h0 : v = 0
  · subst h0; rw [dgI_zero]; simp
  · rw [dgI_next v h0, List.length_cons]
    have h1 := wrap_small (Int.tdiv v 10)
    have := dgI_len 19 (IntKind.i64.wrap (Int.tdiv v 10)) (by omega)
    omega
def showI (v : Int) : List UInt8 := if v = 0 then [48] else (dgI v ++ (if v < 0 then [45] else [])).reverse
theorem showI_len (v : Int) : (showI v).length ≤ 21 := by
  have := dgI_le v
  unfold showI
  split
  · simp
  · split <;> simp <;> omega
set_option maxHeartbeats 4000000 in
set_option maxRecDepth 100000 in
theorem showI_any (n : Int) (w : World) :
    Calls Try.prog 16 #[.int .i64 n] w fun e w' => e = .returned (.string ⟨(showI n).toArray⟩) ∧ Below w.heap.size w w' := by
  by_cases h0 : n = 0
  · subst h0
    go_enter Try.func16, Try.ntmps16
    go_wp2_with fail
    go_ret
    exact ⟨rfl, Below.refl _ _⟩
  · have hz : (n == 0) = false := by simpa using h0
    have HR := Lib.hid (show showI n = (dgI n ++ (if n < 0 then [45] else [])).reverse by unfold showI; rw [if_neg h0])
    have hlen := dgI_le n
    obtain ⟨D, hD⟩ : ∃ D, D = dgI n := ⟨_, rfl⟩
    rw [← hD] at hlen HR
    have HD := Lib.hid hD
    clear hD
    go_enter Try.func16, Try.ntmps16
    go_wp2_with fail
    go_loopw [0, 3, 5] (fun v ds d wr => ∃ (k : Int) (M : List UInt8), v = .int .i64 k ∧ M ++ dgI k = D ∧ Own8 wr w.heap.size ds M ∧ Below w.heap.size w wr) (fun v _ _ _ => (intOf v).natAbs)
    case atStart => exact ⟨n, [], rfl, by rw [HD.out]; rfl, Own8.made w, (Below.refl _ _).alloc (Nat.le_refl _) _⟩
    case round =>
      obtain ⟨k, M, rfl, hMD, hown, hb⟩ := hrel
      have hbs := hb.size
      have hml : M.length ≤ 20 := by have := congrArg List.length hMD; rw [List.length_append] at this; omega
      have HMD := Lib.hid hMD
      clear hMD
      by_cases hk0 : k = 0
      · have hkz : (k != 0) = false := by subst hk0; rfl
        have hMD : M = D := by have := HMD.out; rw [hk0, dgI_zero, List.append_nil] at this; exact this
        subst hk0
        subst hMD
        by_cases hneg0 : n < 0
        · have hown2 := hown.alloc (.cells #[.int .u8 45] 5)
          have hin45 := In8.one wr 45 (by omega) (by omega)
          have HH := Lib.hid hown2
          have HRR0 := Lib.hid (show (M ++ [ubyte 45]).reverse = showI n by rw [HR.out, if_pos hneg0]; rfl)
          clear hown
          obtain ⟨M2, hM2⟩ : ∃ M2, M2 = M ++ [ubyte 45] := ⟨_, rfl⟩
          rw [← hM2] at HRR0
          have hml3 : M2.length ≤ 21 := by rw [hM2]; simp; omega
          have HM2 := Lib.hid hM2
          clear hM2
          have HB0 := Lib.hid hb
          have HBS0 := Lib.hid hbs
          have HO2 := Lib.hid hown2
          clear hb hown2
          go_wp2_with (at_builtin; refine wpList_append8 rfl _ _ rfl w.heap.size _ _ rfl HH.out _ _ _ _ rfl rfl hin45 (by simp; omega) (by simp; omega) ?_; intro v2 w2 hown3 hgrow3 _; have hb3 := own_grown (HB0.out.alloc HBS0.out _) (by simp; omega) HO2.out hgrow3; clear hgrow3; rw [← HM2.out] at hown3; obtain ⟨p, c, rfl, _, _, hin⟩ := hown3.in8n (n := M2.length) rfl)
          have HBW := Lib.hid hb3
          have HBS := Lib.hid hb3.size
          have HRR := HRR0
          obtain ⟨w0, hw0⟩ : ∃ W, W = w2 := ⟨_, rfl⟩
          subst hw0
          clear hown3 hb3
          have hlr : (M2.reverse).length = M2.length := List.length_reverse
          go_wp2_with fail
          go_loopw [6, 7] (fun o i wr => ∃ (j : Nat), j ≤ M2.length ∧ i = .int .i64 ((M2.length : Int) - 1 - (j : Int)) ∧ Own8 wr w0.heap.size o (M2.reverse.take j) ∧ Below w0.heap.size w0 wr) (fun _ i _ => (intOf i + 1).toNat)
          case atStart => exact ⟨0, by omega, by go_num, Own8.made w0, (Below.refl _ _).alloc (Nat.le_refl _) _⟩
          case round =>
            obtain ⟨j, hj, rfl, hown, hb2⟩ := hrel
            have hbs2 := hb2.size
            by_cases hlt : j < M2.length
            · have hge : (0 : Int) ≤ (M2.length : Int) - 1 - (j : Int) := by omega
              obtain ⟨m, hm⟩ : ∃ m : Nat, m + 1 + j = M2.length := ⟨M2.length - 1 - j, by omega⟩
              have hmi : (M2.length : Int) - 1 - (j : Int) = (m : Int) := by omega
              have hml2 : m < M2.length := by omega
              obtain ⟨b, o, rfl, hcell⟩ := (hin.below hb2).at (k := m) hml2
              have hck := hcell m hml2
              have HTK := Lib.hid (show M2.reverse.take (j + 1) = M2.reverse.take j ++ [ubyte (bt M2 m)] by
                rw [List.take_succ_eq_append_getElem (by rw [hlr]; exact hlt), List.getElem_reverse]
                congr 2
                rw [bt_get M2 m hml2, ubyte_self]
                congr 1
                omega)
              have hb0 : 0 ≤ bt M2 m ∧ bt M2 m ≤ 255 := by
                rw [bt_get M2 m hml2]
                have := M2[m].toNat_lt
                omega
              obtain ⟨hb0, hb1⟩ := hb0
              have hin1 := In8.one wr (bt M2 m) hb0 hb1
              have hown2 := hown.alloc (.cells #[.int .u8 (bt M2 m)] 5)
              have HH := Lib.hid hown2
              have hjl : (M2.reverse.take j).length ≤ 21 := by rw [List.length_take]; omega
              rw [hmi]
              clear hcell hown
              go_wp2_with (at_builtin; refine wpList_append8 rfl _ _ rfl w0.heap.size _ _ rfl HH.out _ _ _ _ rfl rfl hin1 (by simp; omega) (by simp; omega) ?_; intro v2 w2 hown3 hgrow3 _)
              go_roundw
              case rel => exact ⟨j + 1, by omega, by rw [Value.int.injEq]; exact ⟨rfl, by omega⟩, by rw [HTK.out]; exact hown3, own_grown (hb2.alloc hbs2 _) (by simp; omega) hown2 hgrow3⟩
              case measure => simp [intOf]
            · obtain rfl : j = M2.length := by omega
              have hneg : ¬ (0 : Int) ≤ (M2.length : Int) - 1 - (M2.length : Int) := by omega
              have htk : M2.reverse.take M2.length = M2.reverse := List.take_of_length_le (by rw [hlr]; exact Nat.le_refl _)
              rw [htk] at hown
              obtain ⟨p2, c2, rfl, _, _, hin2⟩ := hown.in8n hlr
              have hts := toStr_at hin2 hlr c2
              clear htk hown hin2
              go_wp2_with fail
              go_ret
              exact ⟨by rw [← HRR.out]; rfl, HBW.out.trans (hb2.mono HBS.out)⟩
        · have HRR0 := Lib.hid (show M.reverse = showI n by rw [HR.out, if_neg hneg0, List.append_nil])
          obtain ⟨M2, hM2⟩ : ∃ M2, M2 = M := ⟨_, rfl⟩
          rw [← hM2] at hown HRR0 hml
          have HM2 := Lib.hid hM2
          clear hM2
          have hml3 : M2.length ≤ 21 := by omega
          obtain ⟨p, c, rfl, _, _, hin⟩ := hown.in8n (n := M2.length) rfl
          have HBW := Lib.hid hb
          have HBS := Lib.hid hbs
          have HRR := HRR0
          obtain ⟨w0, rfl⟩ : ∃ W, W = wr := ⟨_, rfl⟩
          clear hown hb
          have hlr : (M2.reverse).length = M2.length := List.length_reverse
          go_wp2_with fail
          go_loopw [6, 7] (fun o i wr => ∃ (j : Nat), j ≤ M2.length ∧ i = .int .i64 ((M2.length : Int) - 1 - (j : Int)) ∧ Own8 wr w0.heap.size o (M2.reverse.take j) ∧ Below w0.heap.size w0 wr) (fun _ i _ => (intOf i + 1).toNat)
          case atStart => exact ⟨0, by omega, by go_num, Own8.made w0, (Below.refl _ _).alloc (Nat.le_refl _) _⟩
          case round =>
            obtain ⟨j, hj, rfl, hown, hb2⟩ := hrel
            have hbs2 := hb2.size
            by_cases hlt : j < M2.length
            · have hge : (0 : Int) ≤ (M2.length : Int) - 1 - (j : Int) := by omega
              obtain ⟨m, hm⟩ : ∃ m : Nat, m + 1 + j = M2.length := ⟨M2.length - 1 - j, by omega⟩
              have hmi : (M2.length : Int) - 1 - (j : Int) = (m : Int) := by omega
              have hml2 : m < M2.length := by omega
              obtain ⟨b, o, rfl, hcell⟩ := (hin.below hb2).at (k := m) hml2
              have hck := hcell m hml2
              have HTK := Lib.hid (show M2.reverse.take (j + 1) = M2.reverse.take j ++ [ubyte (bt M2 m)] by
                rw [List.take_succ_eq_append_getElem (by rw [hlr]; exact hlt), List.getElem_reverse]
                congr 2
                rw [bt_get M2 m hml2, ubyte_self]
                congr 1
                omega)
              have hb0 : 0 ≤ bt M2 m ∧ bt M2 m ≤ 255 := by
                rw [bt_get M2 m hml2]
                have := M2[m].toNat_lt
                omega
              obtain ⟨hb0, hb1⟩ := hb0
              have hin1 := In8.one wr (bt M2 m) hb0 hb1
              have hown2 := hown.alloc (.cells #[.int .u8 (bt M2 m)] 5)
              have HH := Lib.hid hown2
              have hjl : (M2.reverse.take j).length ≤ 21 := by rw [List.length_take]; omega
              rw [hmi]
              clear hcell hown
              go_wp2_with (at_builtin; refine wpList_append8 rfl _ _ rfl w0.heap.size _ _ rfl HH.out _ _ _ _ rfl rfl hin1 (by simp; omega) (by simp; omega) ?_; intro v2 w2 hown3 hgrow3 _)
              go_roundw
              case rel => exact ⟨j + 1, by omega, by rw [Value.int.injEq]; exact ⟨rfl, by omega⟩, by rw [HTK.out]; exact hown3, own_grown (hb2.alloc hbs2 _) (by simp; omega) hown2 hgrow3⟩
              case measure => simp [intOf]
            · obtain rfl : j = M2.length := by omega
              have hneg : ¬ (0 : Int) ≤ (M2.length : Int) - 1 - (M2.length : Int) := by omega
              have htk : M2.reverse.take M2.length = M2.reverse := List.take_of_length_le (by rw [hlr]; exact Nat.le_refl _)
              rw [htk] at hown
              obtain ⟨p2, c2, rfl, _, _, hin2⟩ := hown.in8n hlr
              have hts := toStr_at hin2 hlr c2
              clear htk hown hin2
              go_wp2_with fail
              go_ret
              exact ⟨by rw [← HRR.out]; rfl, HBW.out.trans (hb2.mono HBS.out)⟩
      · have hkz : (k != 0) = true := by simpa using hk0
        have HN := Lib.hid (show dgI k = ubyte (48 + (k.natAbs : Int) % 10) :: dgI (wrap64 (Int.tdiv k 10)) by rw [dgI_next k hk0, i64_isX]; rfl)
        have hma := tmod_abs k
        have hda := tdiv_abs k
        have hwa := wrap_abs (Int.tdiv k 10)
        rw [i64_isX] at hwa
        have hown2 := hown.alloc (.cells #[.int .u8 (48 + (k.natAbs : Int) % 10)] 5)
        have hin := In8.one wr (48 + (k.natAbs : Int) % 10) (by omega) (by omega)
        have HH := Lib.hid hown2
        clear hown
        by_cases hd : Int.tmod k 10 < 0
        · have hneg : -Int.tmod k 10 = ((k.natAbs % 10 : Nat) : Int) := by omega
          go_wp2_with (at_builtin; refine wpList_append8 rfl _ _ rfl w.heap.size _ _ rfl HH.out _ _ _ _ rfl rfl hin (by simp; omega) (by simp; omega) ?_; intro v2 w2 hown3 hgrow3 _)
          go_roundw
          case rel => exact ⟨_, _, rfl, by rw [List.append_assoc, ← HMD.out, HN.out]; rfl, hown3, own_grown (hb.alloc hbs _) (by simp; omega) hown2 hgrow3⟩
          case measure => simp [intOf]; omega
        · have hpos : Int.tmod k 10 = ((k.natAbs % 10 : Nat) : Int) := by omega
          go_wp2_with (at_builtin; refine wpList_append8 rfl _ _ rfl w.heap.size _ _ rfl HH.out _ _ _ _ rfl rfl hin (by simp; omega) (by simp; omega) ?_; intro v2 w2 hown3 hgrow3 _)
          go_roundw
          case rel => exact ⟨_, _, rfl, by rw [List.append_assoc, ← HMD.out, HN.out]; rfl, hown3, own_grown (hb.alloc hbs _) (by simp; omega) hown2 hgrow3⟩
          case measure => simp [intOf]; omega
end Go.Proofs.Ytmllcfkgkkbkpaa
