/-
  TokParams: every Params answers the value and the parameters that the document says.
-/
import Derived.Test.YtpchpfhnimgdaaaDoorRefParams
namespace Go.Proofs.YtpchpfhnimgdaaaDoor
open Go.RowKit

theorem par_alive : parV (⟨#[97, 59, 66, 61, 99]⟩ : ByteArray).data.toList = [97] ∧ parE (⟨#[97, 59, 66, 61, 99]⟩ : ByteArray).data.toList = 0 ∧ parL (⟨#[97, 59, 66, 61, 99]⟩ : ByteArray).data.toList = [([98], [99])] := by decide +kernel
theorem parL_length (l : List UInt8) : (parL l).length ≤ l.length + 1 := by
  have key : ∀ (M : List (List UInt8)) (L : List Pair), parGo M = some L → L.length ≤ M.length := by
    intro M
    induction M with
    | nil => intro L h; rw [parGo] at h; cases h; simp
    | cons t r ih =>
      intro L h
      rw [parGo] at h
      split at h
      · have := ih L h; simp; omega
      · split at h
        · cases h
        · cases hr : parGo r with
          | none => rw [hr] at h; cases h
          | some K => rw [hr] at h; cases h; have := ih K hr; simp; omega
  unfold parL
  cases h : parR l with
  | none => simp
  | some L =>
    have h1 := key _ L h
    have h2 := (parM_length l).2
    simp only [Option.getD_some]
    rw [List.length_drop] at h1
    omega

set_option maxHeartbeats 4000000 in
theorem tokParams_walk (s : ByteArray) (w : World) (hs : s.data.toList.length ≤ 1048576) (hsh : w.ShapedOpen Tryd.prog) :
    Calls Tryd.prog 9 #[.string s] w fun e w' => e = .returned (.bool true) ∧ Below w.heap.size w w' := by
  have hm := MaxC.of hsh
  have hll := parL_length s.data.toList
  rw [size_list] at hs hll
  clear hsh
  go_enter Tryd.func9, Tryd.ntmps9
  go_wp2_with fail
  refine (params_any ⟨#[97, 59, 66, 61, 99]⟩ _ hm (by decide)).mono ?_
  rintro e w1 ⟨⟨v1, rfl, hown1⟩, hb1⟩
  have hs1 := hb1.size
  have hm1 := hm.below hb1
  rw [par_alive.1, par_alive.2.1]
  rw [par_alive.2.2] at hown1
  obtain ⟨p1, c1, rfl, k1, k2, hin1, _⟩ := hown1.shape (n := 1) rfl
  obtain ⟨b, o, rfl, x, y, hcx, hcy, hx, hy⟩ := hin1.at (show 0 < [(([98] : List UInt8), ([99] : List UInt8))].length by decide)
  simp only [Nat.zero_mul, Nat.add_zero] at hcx hcy
  have e1 : x = ⟨#[98]⟩ := ba_eq hx
  have e2 : y = ⟨#[99]⟩ := ba_eq hy
  subst e1 e2
  clear hx hy hown1 hin1
  go_wp2_with fail
  refine (params_any s _ hm1 (by omega)).mono ?_
  rintro e w2 ⟨⟨v2, rfl, hown2⟩, hb2⟩
  have hs2 := hb2.size
  go_wp2_with fail
  refine (refParams_any s _ (by omega)).mono ?_
  rintro e w3 ⟨⟨v3, rfl, hown3⟩, hb3⟩
  have hs3 := hb3.size
  have hown2' := hown2.below hb3
  obtain ⟨L, hL⟩ : ∃ L, L = parL s.data.toList := ⟨_, rfl⟩
  rw [← hL] at hown2' hown3 hll
  clear hown2
  obtain ⟨p2, c2, rfl, _, _, hin2, _⟩ := hown2'.shape rfl
  obtain ⟨p3, c3, rfl, _, _, hin3, _⟩ := hown3.shape rfl
  have HL := Lib.hid hL
  clear hL hown2' hown3
  obtain ⟨u, hu⟩ : ∃ u : ByteArray, u = ⟨(parV s.data.toList).toArray⟩ := ⟨_, rfl⟩
  rw [← hu]
  obtain ⟨er, her⟩ : ∃ er, er = parE s.data.toList := ⟨_, rfl⟩
  rw [← her]
  have t1 : (u.toList == u.toList) = true := by simp
  have t1' : (u.toList != u.toList) = false := by simp
  have t2 : (er != er) = false := by simp
  have HU := Lib.hid hu
  have HER := Lib.hid her
  have hB3 := (hb1.trans (hb2.mono hs1)).trans (hb3.mono (by omega))
  clear hu her
  go_wp2_with fail
  go_loopw [9] (fun i wr => ∃ k : Nat, k ≤ L.length ∧ i = .int .i64 k ∧ Below w3.heap.size w3 wr) (fun i _ => L.length - (intOf i).toNat)
  case atStart => exact ⟨0, by omega, rfl, Below.refl _ _⟩
  case round =>
    obtain ⟨k, hk, rfl, hb⟩ := hrel
    by_cases hlt : k < L.length
    · obtain ⟨bx, ox, ex, x1, y1, g1, g2, g3, g4⟩ := (hin2.below hb).at hlt
      obtain ⟨by', oy, ey, x2, y2, g5, g6, g7, g8⟩ := (hin3.below hb).at hlt
      obtain rfl : x2 = x1 := by rw [ba_eq g7, ba_eq g3]
      obtain rfl : y2 = y1 := by rw [ba_eq g8, ba_eq g4]
      subst ex ey
      have q1 : (x2.toList == x2.toList) = true := by simp
      have q2 : (y2.toList == y2.toList) = true := by simp
      clear g3 g4 g7 g8
      go_wp2_with fail
      go_quiet (fail)
      go_wp2
      go_roundw
      case rel => exact ⟨k + 1, by omega, by go_num, bdrewN hb _⟩
      case measure => simp [intOf]; omega
    · obtain rfl : k = L.length := by omega
      go_wp2_with fail
      go_ret
      exact ⟨rfl, hB3.trans (hb.mono (by omega))⟩
end Go.Proofs.YtpchpfhnimgdaaaDoor
