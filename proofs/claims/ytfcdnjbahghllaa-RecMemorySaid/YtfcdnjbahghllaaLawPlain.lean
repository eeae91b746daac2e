/-
  RecPlain: what is read of any bytes is a record that can be written, and is written as these bytes.
-/
import Derived.Test.YtfcdnjbahghllaaLawEncs
import Derived.Test.YtfcdnjbahghllaaDecRef
import Derived.Test.YtfcdnjbahghllaaRecLaw
namespace Go.Proofs.Ytfcdnjbahghllaa
open Go.RowKit

theorem In8.cut {w : World} {p : Option Addr} {l : List UInt8} (h : In8 w p l) (hi : Nat) : In8 w p (l.take hi) := by
  intro h0
  have h1 : 0 < l.length := by rw [List.length_take] at h0; omega
  obtain ⟨b, o, rfl, hc⟩ := h h1
  refine ⟨b, o, rfl, fun i hi' => ?_⟩
  rw [List.length_take] at hi'
  rw [hc i (by omega)]
  unfold bt
  simp only [List.getD_eq_getElem?_getD]
  rw [List.getElem?_take_of_lt (by omega)]

theorem recDec_own {w : World} {base : Nat} {v : Value} {l : List UInt8} (h : Own8 w base v l) :
    Calls Try.prog 18 #[v] w fun e w' => e = .returned (dec l).val ∧ Below w.heap.size w w' := by
  obtain ⟨p, c, rfl, h1, h2, h3⟩ := h.in8
  exact recDec_any l p _ c rfl h1 h2 w h3

set_option maxHeartbeats 2000000 in
theorem recPlain_none (l : List UInt8) (e0 : Int) (he : e0 = 0 ∨ e0 = 100) (hd : dec l = .none e0) (p : Option Addr) (c : Nat) (w : World) (hr : l.length ≤ 140737488351232) (h : In8 w p l) :
    Calls Try.prog 9 #[.slice p l.length c] w fun e w' => e = .returned (.bool true) ∧ Below w.heap.size w w' := by
  have HD := Lib.hid hd
  clear hd
  rcases he with rfl | rfl
  all_goals
    go_enter Try.func9, Try.ntmps9
    go_wp2_with fail
    refine (alive_any _).mono ?_
    rintro e w1 ⟨rfl, hb1⟩
    have h1 := h.below hb1
    go_wp2_with fail
    refine (copyBytes_any l p _ c rfl (by omega) w1 h1).mono ?_
    rintro e w2 ⟨v2, rfl, hown2, hb2⟩
    go_wp2_with fail
    refine (recDec_own hown2).mono ?_
    rintro e w3 ⟨rfl, hb3⟩
    rw [HD.out]
    unfold Dec.val Dec.none
    go_wp2_with fail
    go_ret
    have s1 := hb1.size
    have s2 := hb2.size
    have s3 := hb3.size
    exact ⟨ret_bool (by simp), ((hb1.trans (hb2.mono (by omega))).trans (hb3.mono (by omega))).alloc (by omega) _⟩

set_option maxHeartbeats 2000000 in
theorem recPlain_good (l : List UInt8) (hd : dec l = decGood l) (hx : bt l 0 = 193 ∨ bt l 0 = 194) (hk : decK l ≤ 4096) (hs : decK l + 15 ≤ l.length) (hg : valB (sl l (decK l + 11) (decK l + 15)) = crc (l.take (decK l + 11)))
    (p : Option Addr) (c : Nat) (w : World) (hr : l.length ≤ 140737488351232) (hnc : l.length ≤ c) (_ : c ≤ 140737488351232) (h : In8 w p l) :
    Calls Try.prog 9 #[.slice p l.length c] w fun e w' => e = .returned (.bool true) ∧ Below w.heap.size w w' := by
  obtain ⟨ge, gf⟩ := good_enc l hx hk hs hg
  unfold decGood at hd ge gf
  dsimp only at ge gf
  generalize ((valB (sl l 3 7) : Nat) : Int) = ds at *
  generalize bt l 0 - 192 = dop at *
  generalize ((valB (sl l 7 11) : Nat) : Int) = dn at *
  generalize sl l 11 (decK l + 11) = did at *
  generalize decK l = k at *
  have HD := Lib.hid hd
  have GE := Lib.hid ge
  have GF := Lib.hid gf
  have htl : (l.take (k + 15)).length = k + 15 := by rw [List.length_take]; omega
  have HT := Lib.hid htl
  clear hd ge gf hg hx htl
  go_enter Try.func9, Try.ntmps9
  go_wp2_with fail
  refine (alive_any _).mono ?_
  rintro e w1 ⟨rfl, hb1⟩
  have h1 := h.below hb1
  go_wp2_with fail
  refine (copyBytes_any l p _ c rfl (by omega) w1 h1).mono ?_
  rintro e w2 ⟨v2, rfl, hown2, hb2⟩
  have h2 := h1.below hb2
  go_wp2_with fail
  refine (recDec_own hown2).mono ?_
  rintro e w3 ⟨rfl, hb3⟩
  have h3 := (h2.below hb3).alloc (.cells #[.int .i64 ds, .int .i64 dop, .int .i64 dn, .string ⟨did.toArray⟩] 29)
  have hb4 := (Below.refl w3.heap.size w3).alloc (Nat.le_refl _) (.cells #[.int .i64 ds, .int .i64 dop, .int .i64 dn, .string ⟨did.toArray⟩] 29)
  rw [HD.out]
  unfold Dec.val
  have hne : (((k : Int) + 15) == 0) = false := by simp; omega
  go_wp2_with fail
  refine (recEnc_any ds dop dn ⟨did.toArray⟩ _).mono ?_
  rintro e w5 ⟨v5, rfl, hown5, hb5⟩
  have hsz : (⟨did.toArray⟩ : ByteArray).size = did.length := by simp [ByteArray.size]
  have hdt : (⟨did.toArray⟩ : ByteArray).data.toList = did := by simp
  rw [hsz, GE.out]
  rw [hdt, GF.out] at hown5
  have h5 := h3.below hb5
  have hcut := h5.cut (k + 15)
  clear hsz hdt
  go_wp2_with fail
  obtain ⟨p8, c8, rfl, k1, k2, hin8⟩ := hown5.in8n HT.out
  refine (sameBytes_any _ _ p8 p _ c8 _ _ HT.out HT.out (by unfold maxLen; omega) (by unfold maxLen; omega) w5 hin8 hcut).mono ?_
  rintro e w8 ⟨rfl, hb8⟩
  go_wp2_with fail
  go_ret
  have s1 := hb1.size
  have s2 := hb2.size
  have s3 := hb3.size
  have s4 := hb4.size
  have s5 := hb5.size
  exact ⟨ret_bool (by simp), (((((hb1.trans (hb2.mono (by omega))).trans (hb3.mono (by omega))).trans (hb4.mono (by omega))).trans (hb5.mono (by omega))).trans (hb8.mono (by omega)))⟩

theorem recPlain_walk (l : List UInt8) (p : Option Addr) (c : Nat) (w : World) (hr : l.length ≤ 140737488351232) (hnc : l.length ≤ c ∧ c ≤ 140737488351232) (h : In8 w p l) :
    Calls Try.prog 9 #[.slice p l.length c] w fun e w' => e = .returned (.bool true) ∧ Below w.heap.size w w' := by
  rcases dec_cases l with hd | hd | ⟨hd, hx, h3, hk, hs, hg⟩
  · exact recPlain_none l 0 (.inl rfl) hd p c w hr h
  · exact recPlain_none l 100 (.inr rfl) hd p c w hr h
  · exact recPlain_good l hd hx hk hs hg p c w hr hnc.1 hnc.2 h
end Go.Proofs.Ytfcdnjbahghllaa
