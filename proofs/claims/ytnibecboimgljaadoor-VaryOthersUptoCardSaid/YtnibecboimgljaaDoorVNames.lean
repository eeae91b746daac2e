/-
  Names, the program's: sorted, each once.
-/
import Derived.Test.YtnibecboimgljaaDoorVRefNames
import Derived.Test.YtnibecboimgljaaDoorSortC
namespace Go.Proofs.YtnibecboimgljaaDoor
open Go.RowKit

theorem tokensV_fold (L : List Pair) (a b : List UInt8) (h : fold a = fold b) : tokensOf L a = tokensOf L b := by
  unfold tokensOf valuesOf hasName
  rw [h]

set_option maxHeartbeats 8000000 in
set_option maxRecDepth 100000 in
theorem names_any (L : List Pair) (p : Option Addr) (n c : Nat) (hn : L.length = n) (hr : n ≤ 4000000000000) (hsz : ∀ x ∈ L, x.1.length ≤ 140737488351232 ∧ x.2.length ≤ 4000000000) (hT : (tokensOf L varyB).length ≤ 4000000000000) (w : World) (h : In2 w p L) :
    Calls Tryd.prog 12 #[.slice p n c] w fun e w' => ∃ v, e = .returned (.tuple #[v, .bool (namesT L).2]) ∧ OwnS w' w.heap.size v (namesT L).1 ∧ Below w.heap.size w w' := by
  have hfold := tokensV_fold L [86, 97, 114, 121] varyB (by decide)
  go_enter Tryd.func12, Tryd.ntmps12
  go_wp2_with fail
  refine (tokens_any L p n c hn hr ⟨#[86, 97, 114, 121]⟩ (by decide) hsz (by show (tokensOf L [86, 97, 114, 121]).length ≤ _; rw [hfold]; omega) w h).mono ?_
  rintro e w1 ⟨v1, rfl, hown1, hb1⟩
  have hs1 := hb1.size
  change OwnS w1 w.heap.size v1 (tokensOf L [86, 97, 114, 121]) at hown1
  rw [hfold] at hown1
  obtain ⟨V, hV⟩ : ∃ V, V = tokensOf L varyB := ⟨_, rfl⟩
  rw [← hV] at hown1 hT
  have HV := Lib.hid hV
  obtain ⟨pv, cv, rfl, k1, k2, hinV, _⟩ := hown1.shape rfl
  clear h hV hsz hfold
  have hcon := contains_in (c := cv) ⟨#[42]⟩ w1 rfl (by omega) hinV
  have hsort := sort_own w1 hown1 (by omega)
  by_cases hst : starB ∈ V
  · have HS := Lib.hid (namesT_star L (by rw [← HV.out]; exact hst))
    rw [show decide ((⟨#[42]⟩ : ByteArray).data.toList ∈ V) = true from decide_eq_true hst] at hcon
    clear hst hsort
    go_wp2_with fail
    refine hcon.mono ?_
    rintro e w2 ⟨rfl, rfl⟩
    go_wp2_with fail
    go_ret2
    exact ⟨.slice none 0 0, by rw [HS.out]; rfl, by rw [HS.out]; exact OwnS.nil _ _, hb1⟩
  · have HS := Lib.hid (namesT_no L (by rw [← HV.out]; exact hst))
    rw [show decide ((⟨#[42]⟩ : ByteArray).data.toList ∈ V) = false from decide_eq_false hst] at hcon
    clear hst
    go_wp2_with fail
    refine hcon.mono ?_
    rintro e w2 ⟨rfl, rfl⟩
    go_wp2_with fail
    refine hsort.mono ?_
    rintro e w3 ⟨rfl, hown3, hg3⟩
    have hb3 := OwnS.grown hb1 hs1 hown1 hg3
    have hs3 := hb3.size
    have hcomp := compact_own w3 hown3 (by rw [sortL_length]; omega)
    clear hcon hsort hinV
    go_wp2_with fail
    refine hcomp.mono ?_
    rintro e w4 ⟨v4, rfl, hown4, hg4, _⟩
    have hb4 := OwnS.grown hb3 hs3 hown3 hg4
    clear hcomp
    go_wp2_with fail
    go_ret2
    rw [HS.out, ← HV.out]
    exact ⟨_, rfl, hown4, hb4⟩
end Go.Proofs.YtnibecboimgljaaDoor
