/-
  The first line of each statement about records: it answers true.
-/
import Derived.Test.YtfcdnjbahghllaaEncRef
import Derived.Lib.SlBytesConst
namespace Go.Proofs.Ytfcdnjbahghllaa
open Go.RowKit

theorem crc_nine : crc [49, 50, 51, 52, 53, 54, 55, 56, 57] = 3421780262 := by decide +kernel
theorem encAll_length (s o n : Nat) (id : List UInt8) : (encAll s o n id).length = id.length + 15 := by
  simp [encAll, encBody, beB_length]; omega
theorem encAll_head (s o n : Nat) (id : List UInt8) : bt (encAll s o n id) 0 = ((UInt8.ofNat (192 + o)).toNat : Int) := by
  rw [bt_get _ _ (by rw [encAll_length]; omega)]; rfl

set_option maxHeartbeats 1000000 in
set_option maxRecDepth 100000 in
theorem alive_any (w : World) : Calls Try.prog 10 #[] w fun e w' => e = .returned (.bool true) ∧ Below w.heap.size w w' := by
  have hnine := fun W fr => In8.lit W [49, 50, 51, 52, 53, 54, 55, 56, 57] #[.int .u8 49, .int .u8 50, .int .u8 51, .int .u8 52, .int .u8 53, .int .u8 54, .int .u8 55, .int .u8 56, .int .u8 57] fr rfl
  have HN := Lib.hid hnine
  clear hnine
  have hof : encOf 0 1 0 [] = encAll 0 1 0 [] := by decide +kernel
  have her : encErr 0 1 0 ({ data := #[] } : ByteArray).size = 0 := by decide +kernel
  have HF := Lib.hid hof
  have HS := Lib.hid crc_nine
  have HR := Lib.hid her
  clear her
  clear hof
  have kc := fun (w : World) (C : Array Value) (n c : Nat) => Lib.run_convert_bytes_const (P := Try.prog) w 22 5 C n c Try.underlying22 Try.underlying5
  go_enter Try.func10, Try.ntmps10
  go_wp2_with fail
  refine (recEnc_any _ _ _ _ _).mono ?_
  rintro e w1 ⟨v1, rfl, hown1, hb1⟩
  replace hown1 : Own8 w1 w.heap.size v1 (encAll 0 1 0 []) := by rw [← HF.out]; exact hown1
  obtain ⟨p, c, rfl, hc1, hc2, hin⟩ := hown1.in8n (n := 15) (by rw [encAll_length]; rfl)
  rw [HR.out]
  obtain ⟨b, o, rfl, hcell⟩ := hin.at (k := 0) (by rw [encAll_length]; omega)
  have hc0 := hcell 0 (by rw [encAll_length]; omega)
  rw [show bt (encAll 0 1 0 []) 0 = 193 from (encAll_head 0 1 0 []).trans rfl, Nat.add_zero] at hc0
  clear hcell hin hown1
  go_wp2_with fail
  refine (recSum_any [49, 50, 51, 52, 53, 54, 55, 56, 57] _ 9 _ rfl (by unfold maxLen; omega) _ (HN.out _ _)).mono ?_
  rintro e w2 ⟨rfl, rfl⟩
  rw [HS.out]
  have hc1' := fun O => cell_past hc0 O
  go_wp2_with fail
  go_ret
  exact ⟨rfl, hb1.alloc hb1.size _⟩
end Go.Proofs.Ytfcdnjbahghllaa
