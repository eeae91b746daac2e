/-
  ControlFirst: a number that is told first counts, whatever is told behind it.
-/
import Derived.Test.YtnengooipemffaaDoorCaseLaw
import Derived.Test.YtnengooipemffaaDoorCtlForm
import Derived.Test.YtnengooipemffaaDoorShow
import Derived.Test.YtnengooipemffaaDoorJoinLaw
namespace Go.Proofs.YtnengooipemffaaDoor
open Go.RowKit

theorem trim_plain (a : List UInt8) (h : Plain a) : trim a = a := by
  rw [trim_eq, dropW_self blankB a.reverse, List.reverse_reverse, dropW_self blankB a]
  · intro x r e; exact (h x (by rw [e]; simp)).2.2
  · intro x r e; exact (h x (by rw [← List.mem_reverse, e]; simp)).2.2
theorem listOf_plain (a : List UInt8) (h : Plain a) (h0 : a ≠ []) : listOf a = [a] := by
  refine listOf_one a ?_ (trim_plain a h) ?_
  · have := runC_plain a [] h
    rw [List.append_nil] at this
    rw [this]; rfl
  · unfold full; cases a with
    | nil => exact absurd rfl h0
    | cons _ _ => rfl
theorem dig_plain (x : UInt8) (h : digB x = true) : x ≠ 34 ∧ x ≠ 44 ∧ blankB x = false ∧ x ≠ 61 := by
  have := all256 (fun x => digB x = true → (x ≠ 34 ∧ x ≠ 44 ∧ blankB x = false ∧ x ≠ 61)) (by decide +kernel) x
  exact this h
def maE : List UInt8 := [109, 97, 120, 45, 97, 103, 101, 61]
def smE : List UInt8 := [115, 45, 109, 97, 120, 97, 103, 101, 61]
theorem plain_app (a b : List UInt8) (ha : Plain a) (hb : ∀ x ∈ b, digB x = true) : Plain (a ++ b) := by
  intro x hx
  rcases List.mem_append.1 hx with hx | hx
  · exact ha x hx
  · have := dig_plain x (hb x hx); exact ⟨this.1, this.2.1, this.2.2.1⟩
theorem dir_eq (a b : List UInt8) (ha : ∀ x ∈ a, x ≠ 61) (hb : ∀ x ∈ b, digB x = true) : dirT (a ++ 61 :: b) = (fold a, (b, true)) := by
  have hc := cutB_some 61 (a ++ 61 :: b) a.length (by simp) (fun j hj hja => by
    rw [List.getElem_append_left hja]; exact ha _ (List.getElem_mem hja)) (by simp)
  have e1 : (a ++ 61 :: b).take a.length = a := by simp
  have e2 : (a ++ 61 :: b).drop (a.length + 1) = b := by simp
  rw [e1, e2] at hc
  unfold dirT
  rw [hc]
  simp only [dirC]
  rw [if_neg]
  intro e
  cases b with
  | nil => cases e
  | cons x r =>
    simp only [List.head?_cons, Option.some.injEq] at e
    exact (dig_plain x (hb x (by simp))).1 e
theorem first_dirs (n : Nat) (r : List UInt8) : dirsOf [maE ++ showT n ++ 44 :: (smE ++ showT n ++ 44 :: r)] = (maW, (showT n, true)) :: (smW, (showT n, true)) :: dirsOf [r] := by
  have hp1 : Plain (maE ++ showT n) := plain_app _ _ (by unfold Plain maE; decide) (showT_dig n)
  have hp2 : Plain (smE ++ showT n) := plain_app _ _ (by unfold Plain smE; decide) (showT_dig n)
  have d1 : dirT (maE ++ showT n) = (maW, (showT n, true)) := by
    have := dir_eq maW (showT n) (by unfold maW; decide) (showT_dig n)
    rw [show fold maW = maW by decide] at this
    rw [← this]; rfl
  have d2 : dirT (smE ++ showT n) = (smW, (showT n, true)) := by
    have := dir_eq smW (showT n) (by unfold smW; decide) (showT_dig n)
    rw [show fold smW = smW by decide] at this
    rw [← this]; rfl
  unfold dirsOf
  simp only [List.flatMap_cons, List.flatMap_nil, List.append_nil]
  rw [listOf_two _ _ (fun x hx => (hp1 x hx).1), listOf_two _ _ (fun x hx => (hp2 x hx).1), listOf_plain _ hp1 (by unfold maE; simp), listOf_plain _ hp2 (by unfold smE; simp)]
  simp [d1, d2]
theorem first_ctl (n : Nat) (hn : n ≤ 2147483648) (r : List UInt8) : ∃ b0 b1 b2 b3 b4 b5 z2 z3, ctlT [(ccW, maE ++ showT n ++ 44 :: (smE ++ showT n ++ 44 :: r))] = .agg #[.bool b0, .bool b1, .bool b2, .bool b3, .bool b4, .bool b5, .int .i64 n, .int .i64 n, .int .i64 z2, .int .i64 z3] := by
  have e1 : valuesOf [(ccW, maE ++ showT n ++ 44 :: (smE ++ showT n ++ 44 :: r))] ccW = [maE ++ showT n ++ 44 :: (smE ++ showT n ++ 44 :: r)] := by simp [valuesOf, hasName]
  have m1 : numM ((maW, (showT n, true)) :: (smW, (showT n, true)) :: dirsOf [r]) maW = n := by
    unfold numM lookM
    rw [List.find?_cons]
    simp [showT_sec n hn]
  have m2 : numM ((maW, (showT n, true)) :: (smW, (showT n, true)) :: dirsOf [r]) smW = n := by
    have hne : ¬ maW = smW := by decide
    unfold numM lookM
    rw [List.find?_cons]
    simp [hne, showT_sec n hn]
  unfold ctlT
  rw [e1, first_dirs]
  unfold ctlV
  rw [m1, m2]
  exact ⟨_, _, _, _, _, _, _, _, rfl⟩

set_option maxHeartbeats 4000000 in
theorem controlFirst_walk (n : Int) (s : ByteArray) (w : World) (_ : -9223372036854775808 ≤ n ∧ n ≤ 9223372036854775807) (hs : s.data.toList.length ≤ 1048576) (hsh : w.ShapedOpen Tryd.prog) :
    Calls Tryd.prog 8 #[.int .i64 n, .string s] w fun e w' => e = .returned (.bool true) ∧ Below w.heap.size w w' := by
  have hM := MaxC.of hsh
  clear hsh
  rw [size_list] at hs
  by_cases c1 : n < 0
  · go_enter Tryd.func8, Tryd.ntmps8
    go_wp2_with fail
    refine (alive15_any _ hM).mono ?_
    rintro e w1 ⟨rfl, hb1⟩
    go_wp2_with fail
    go_ret
    exact ⟨rfl, hb1⟩
  · by_cases c2 : 2147483648 < n
    · go_enter Tryd.func8, Tryd.ntmps8
      go_wp2_with fail
      refine (alive15_any _ hM).mono ?_
      rintro e w1 ⟨rfl, hb1⟩
      go_wp2_with fail
      go_ret
      exact ⟨rfl, hb1⟩
    · obtain ⟨k, rfl⟩ := Int.eq_ofNat_of_zero_le (show 0 ≤ n by omega)
      have hk : k ≤ 2147483648 := by omega
      have hkl := showT_len k hk
      obtain ⟨b0, b1, b2, b3, b4, b5, z2, z3, hctl⟩ := first_ctl k hk s.data.toList
      have HC := Lib.hid hctl
      obtain ⟨sh, hsh⟩ : ∃ sh : ByteArray, sh = ⟨(showT k).toArray⟩ := ⟨_, rfl⟩
      have hshd : sh.data.toList = showT k := by rw [hsh]
      have hshs : sh.size ≤ 10 := by rw [← size_list, hshd]; exact hkl
      have hshow := fun W => show_any k W hk
      rw [← hsh] at hshow
      have HSHOW := Lib.hid hshow
      have HSD := Lib.hid hshd
      clear hctl hsh hshd hshow
      go_enter Tryd.func8, Tryd.ntmps8
      go_wp2_with fail
      refine (alive15_any _ hM).mono ?_
      rintro e w1 ⟨rfl, hb1⟩
      have hs1 := hb1.size
      go_wp2_with fail
      refine (HSHOW.out _).mono ?_
      rintro e w2 ⟨rfl, hb2⟩
      have hB2 := hb1.trans (hb2.mono hs1)
      have hs2 := hB2.size
      go_wp2_with fail
      refine (HSHOW.out _).mono ?_
      rintro e w3 ⟨rfl, hb3⟩
      have hB3 := hB2.trans (hb3.mono hs2)
      have hs3 := hB3.size
      go_wp2_with fail
      obtain ⟨st, hst⟩ : ∃ st : ByteArray, st = ⟨#[109, 97, 120, 45, 97, 103, 101, 61]⟩ ++ sh ++ ⟨#[44, 115, 45, 109, 97, 120, 97, 103, 101, 61]⟩ ++ sh ++ ⟨#[44]⟩ ++ s := ⟨_, rfl⟩
      have hsl : st.data.toList = maE ++ showT k ++ 44 :: (smE ++ showT k ++ 44 :: s.data.toList) := by
        rw [hst, ← HSD.out]; simp [maE, smE]
      have hss : st.size ≤ 1048676 := by
        rw [← size_list, hsl]
        simp only [List.length_append, List.length_cons, size_list, maE, smE, List.length_nil]
        omega
      rw [← hst]
      rw [← hsl] at HC
      have HC2 := HC
      clear hst hsl HC
      refine (one_any st w3).mono ?_
      rintro e w4 ⟨p4, rfl, hin4, hb4⟩
      have hB4 := hB3.trans (hb4.mono hs3)
      have hs4 := hB4.size
      have hcall := cparse_any [(ccW, st.data.toList)] p4 1 1 rfl (by omega) w4 hin4 (by
        intro x hx
        rw [List.mem_singleton.1 hx, size_list]
        exact ⟨by show ccW.length ≤ _; decide, by omega⟩) (by
        have := tokens_of_len [(ccW, st.data.toList)] pgW
        simp only [List.map_cons, List.map_nil, List.sum_cons, List.sum_nil, size_list] at this
        omega) (hM.below hB4)
      rw [HC2.out] at hcall
      go_wp2_with fail
      refine hcall.mono ?_
      rintro e w5 ⟨rfl, hb5⟩
      have hB5 := hB4.trans (hb5.mono hs4)
      have hs5 := hB5.size
      have q1 : ((k : Int) == (k : Int)) = true := by simp
      clear hcall hin4
      go_wp2_with fail
      go_ret
      exact ⟨rfl, hB5.alloc hs5 _⟩
end Go.Proofs.YtnengooipemffaaDoor
