/-
  Names, the document's: the words put in one by one.
-/
import Derived.Test.YtnibecboimgljaaDoorTokens
import Derived.Test.YtnibecboimgljaaDoorNamesLaw
import Derived.Test.YtnibecboimgljaaDoorKeep
import Derived.Sort.Walk0
import Derived.Laws.Cover1
namespace Go.Proofs.YtnibecboimgljaaDoor
open Go.RowKit

def starB : BS := [42]
def varyB : BS := [118, 97, 114, 121]
/-- the names, and whether they are all -/
def namesT (L : List Pair) : List BS × Bool := if starB ∈ tokensOf L varyB then ([], false) else (namesOf (tokensOf L varyB), true)
theorem namesT_star (L : List Pair) (h : starB ∈ tokensOf L varyB) : namesT L = ([], false) := by unfold namesT; rw [if_pos h]
theorem namesT_no (L : List Pair) (h : ¬ starB ∈ tokensOf L varyB) : namesT L = (namesOf (tokensOf L varyB), true) := by unfold namesT; rw [if_neg h]
theorem less_dec (a b : ByteArray) : Op.bytesLess a.toList b.toList = decide (a.data.toList < b.data.toList) := by
  rw [bytesLess_eq, Lib.toList_data, Lib.toList_data]
theorem notmem_take {V : List BS} {k : Nat} (hk : k < V.length) {x : BS} (h : ¬ x ∈ V.take k) (hn : V[k] ≠ x) : ¬ x ∈ V.take (k + 1) := by
  rw [List.take_succ_eq_append_getElem hk, List.mem_append, List.mem_singleton]
  rintro (e | e)
  · exact h e
  · exact hn e.symm

/-- what is put in, so far -/
def PutIn (B : Nat) (w1 : World) (x : BS) (N : List BS) (v pt i : Value) (j : Nat) (wj : World) : Prop :=
  j ≤ N.length ∧ i = .int .i64 j ∧ pt = .bool (partR x (N.take j)).2 ∧ OutS B (some B) w1 v (partR x (N.take j)).1 wj

theorem OutS.drewN {B : Nat} {row : Option Nat} {w1 : World} {v : Value} {L : List BS} {w : World} (h : OutS B row w1 v L w) (m : Nat) : OutS B row w1 v L (w.drewN m) := OutS.below h (bdrewN (Below.refl _ w) m)
theorem OwnS.drewN {B : Nat} {v : Value} {L : List BS} {w : World} (h : OwnS w B v L) (m : Nat) : OwnS (w.drewN m) B v L := h

set_option maxHeartbeats 8000000 in
set_option maxRecDepth 100000 in
theorem refNames_any (L : List Pair) (p : Option Addr) (n c : Nat) (hn : L.length = n) (hr : n ≤ 4000000000000) (hsz : ∀ x ∈ L, x.1.length ≤ 140737488351232 ∧ x.2.length ≤ 4000000000) (hT : (tokensOf L varyB).length ≤ 4000000000000) (w : World) (h : In2 w p L) :
    Calls Tryd.prog 13 #[.slice p n c] w fun e w' => ∃ v, e = .returned (.tuple #[v, .bool (namesT L).2]) ∧ OwnS w' w.heap.size v (namesT L).1 ∧ Below w.heap.size w w' := by
  go_enter Tryd.func13, Tryd.ntmps13
  go_wp2_with fail
  refine (refTokens_any L p n c hn hr ⟨#[118, 97, 114, 121]⟩ (by decide) hsz (by show (tokensOf L varyB).length ≤ _; omega) w h).mono ?_
  rintro e w1 ⟨v1, rfl, hown1, hb1⟩
  have hs1 := hb1.size
  change OwnS w1 w.heap.size v1 (tokensOf L varyB) at hown1
  obtain ⟨V, hV⟩ : ∃ V, V = tokensOf L varyB := ⟨_, rfl⟩
  rw [← hV] at hown1 hT
  have HV := Lib.hid hV
  obtain ⟨pv, cv, rfl, k1, k2, hinV, hpv⟩ := hown1.shape rfl
  unfold maxLen at k2
  have hpv1 := Lib.hid (fun a ha => (hpv a ha).2.1)
  clear hown1 h hV hsz hpv
  have hmade := OwnS.made w1
  go_wp2_with fail
  go_loopw [5, 6] (fun v i wr => ∃ k : Nat, k ≤ V.length ∧ i = .int .i64 k ∧ OwnS wr w1.heap.size v (namesR (V.take k)) ∧ Below w1.heap.size w1 wr ∧ ¬ starB ∈ V.take k) (fun _ i _ => V.length - (intOf i).toNat)
  case atStart => exact ⟨0, by omega, rfl, hmade, (Below.refl _ _).alloc (Nat.le_refl _) _, by simp⟩
  case round =>
    obtain ⟨k, hk, rfl, hown, hb, hno⟩ := hrel
    have hbs := hb.size
    have HNO := Lib.hid hno
    clear hno hmade
    by_cases hlt : k < V.length
    · obtain ⟨b, o, rfl, x, g1, g2⟩ := (hinV.below hb).at hlt
      have HX := Lib.hid g2
      by_cases hst : x.data.toList = starB
      · have e1 : (x.toList == [42]) = true := by rw [Lib.toList_data, hst]; rfl
        have HS := Lib.hid (namesT_star L (by rw [← HV.out, ← hst, g2]; exact List.getElem_mem hlt))
        clear hst g2
        go_wp2_with fail
        go_ret2
        refine ⟨.slice none 0 0, by rw [HS.out]; rfl, by rw [HS.out]; exact OwnS.nil _ _, hb1.trans (hb.mono hs1)⟩
      · have e1 : (x.toList == [42]) = false := by
          rw [Lib.toList_data]
          exact beq_eq_false_iff_ne.2 hst
        have HNX := Lib.hid (notmem_take hlt HNO.out (fun e => hst (g2.trans e)))
        have HSN := Lib.hid (namesR_snoc V k hlt)
        have hnl := namesR_length V k
        clear hst
        obtain ⟨N, hN⟩ : ∃ N, N = namesR (V.take k) := ⟨_, rfl⟩
        rw [← hN] at hown hnl HSN
        have HN := Lib.hid hN
        obtain ⟨pn, cn, rfl, m1, m2, hinN, hpn⟩ := hown.shape rfl
        have HPN := Lib.hid (fun a ha => (hpn a ha).2.1)
        unfold maxLen at m2
        obtain ⟨wo, hwo⟩ : ∃ x, x = wr := ⟨_, rfl⟩
        subst hwo
        have hmd := OwnS.made wo
        have hbm := hb.alloc hbs (.cells #[] 9)
        have hsm : (wo.alloc (.cells #[] 9)).heap.size = wo.heap.size + 1 := by simp
        have g1' := cell_keep g1 ((Below.refl _ wo).alloc (Nat.le_refl _) (.cells #[] 9))
        have hinN' := hinN.alloc (.cells #[] 9)
        have hkv : b < wo.heap.size := World.block_lt_of_cell? wo _ g1
        have HNN := Lib.hid (show ∀ a, pn = some a → (some wo.heap.size : Option Nat) ≠ some a.block from fun a ha e => by have := HPN.out a ha; injection e with e; omega)
        have HBN := Lib.hid (show (some wo.heap.size : Option Nat) ≠ some b from fun e => by injection e with e; omega)
        clear hN hown hpn hinN
        go_wp2_with fail
        go_loopw [7, 8, 9] (fun v pt i wj => ∃ j : Nat, PutIn wo.heap.size (wo.alloc (.cells #[] 9)) x.data.toList N v pt i j wj) (fun _ _ i _ => N.length - (intOf i).toNat)
        case atStart => exact ⟨0, Nat.zero_le _, rfl, rfl, OutV.start hmd⟩
        case round =>
          obtain ⟨j, hj, rfl, rfl, hout⟩ := hrel
          have hownj := hout.own
          have hszj := hout.2.1.size
          have hpl := (partR_length x.data.toList N j).1
          have gx := hout.2.1.cell g1' (fun e => HBN.out e.symm)
          have HOUT := Lib.hid hout
          by_cases hjl : j < N.length
          · obtain ⟨b', o', rfl, y, q1, q2⟩ := (hout.keepS hinN' HNN.out).at hjl
            have HSP := Lib.hid (partR_snoc x.data.toList N j hjl)
            obtain ⟨S, hS⟩ : ∃ S, S = (partR x.data.toList (N.take j)).1 := ⟨_, rfl⟩
            obtain ⟨pt, hpt⟩ : ∃ pt, pt = (partR x.data.toList (N.take j)).2 := ⟨_, rfl⟩
            rw [← hS] at hownj hpl
            rw [← hpt]
            have HS : Hid (partR x.data.toList (N.take j) = (S, pt)) := Lib.hid (by rw [hS, hpt])
            have hyx : (y.toList == x.toList) = decide (y.data.toList = x.data.toList) := strs_eq y x
            have hlt2 := less_dec y x
            have HY := Lib.hid q2
            clear hout hS hpt q2
            have hiny := fun W => InS.one W y
            have hinx := fun W => InS.one W x
            by_cases hE : y.data.toList = x.data.toList
            · rw [decide_eq_true hE] at hyx
              have hbool : (y.toList != x.toList) = false := by simp [bne, hyx]
              have HST := Lib.hid (show stepR x.data.toList (S, pt) N[j] = (S ++ [y.data.toList], true) by rw [← HY.out]; simp [stepR, hE])
              clear hE hlt2
              go_wp2
              go_quiet (fail)
              go_wp2_with fail
              go_quiet (fail)
              go_wp2_with (at_builtin; refine wpList_appendSw rfl _ _ rfl wo.heap.size _ _ rfl (OwnS.alloc (OwnS.drewN hownj _) (.cells #[.string y] 9)) _ _ _ _ rfl rfl (hiny _) (by simp only [List.length_cons, List.length_nil]; omega) (by simp; omega) ?_; intro v4 w4 hown4 hgrow4 hway4)
              have hout4 := OutS.app (OutS.alloc (OutS.drewN HOUT.out _) _) hown4 hgrow4 hway4
              go_roundw
              case rel => exact ⟨j + 1, by omega, by go_num, by rw [HSP.out, HS.out, HST.out], by rw [HSP.out, HS.out, HST.out]; exact hout4⟩
              case measure => simp [intOf]; omega
            · rw [decide_eq_false hE] at hyx
              have hbool : (y.toList != x.toList) = true := by simp [bne, hyx]
              cases pt with
              | true =>
                have HST := Lib.hid (show stepR x.data.toList (S, true) N[j] = (S ++ [y.data.toList], true) by rw [← HY.out]; simp [stepR])
                clear hE hlt2
                go_wp2
                go_quiet (fail)
                go_wp2_with fail
                go_quiet (fail)
                go_wp2_with (at_builtin; refine wpList_appendSw rfl _ _ rfl wo.heap.size _ _ rfl (OwnS.alloc (OwnS.drewN hownj _) (.cells #[.string y] 9)) _ _ _ _ rfl rfl (hiny _) (by simp only [List.length_cons, List.length_nil]; omega) (by simp; omega) ?_; intro v4 w4 hown4 hgrow4 hway4)
                have hout4 := OutS.app (OutS.alloc (OutS.drewN HOUT.out _) _) hown4 hgrow4 hway4
                go_roundw
                case rel => exact ⟨j + 1, by omega, by go_num, by rw [HSP.out, HS.out, HST.out], by rw [HSP.out, HS.out, HST.out]; exact hout4⟩
                case measure => simp [intOf]; omega
              | false =>
                by_cases hL : x.data.toList < y.data.toList
                · have hl3 : Op.bytesLess y.toList x.toList = false := by rw [hlt2]; exact decide_eq_false (fun e => absurd (List.lt_trans hL e) (List.lt_irrefl _))
                  have HST := Lib.hid (show stepR x.data.toList (S, false) N[j] = (S ++ [x.data.toList] ++ [y.data.toList], true) by rw [← HY.out]; simp [stepR, hE, hL])
                  have hpl2 := (partR_length x.data.toList N j).2
                  rw [HS.out] at hpl2
                  have hpl3 : S.length ≤ j := hpl2 rfl
                  clear hE hlt2 hL hpl2
                  go_wp2
                  go_quiet (fail)
                  go_wp2_with fail
                  go_quiet (fail)
                  go_wp2_with (first
                    | (at_builtin; refine wpList_appendSw rfl _ _ rfl wo.heap.size _ _ rfl (OwnS.alloc (OwnS.drewN hownj _) (.cells #[.string x] 9)) _ _ _ _ rfl rfl (hinx _) (by simp only [List.length_cons, List.length_nil]; omega) (by simp; omega) ?_
                       intro v4 w4 hown4 hgrow4 hway4
                       have hout4 := OutS.app (OutS.alloc (OutS.drewN HOUT.out _) _) hown4 hgrow4 hway4
                       have HOUT4 := Lib.hid hout4
                       have hs4 : wr.heap.size + 1 ≤ w4.heap.size := by have := hgrow4.size; simp only [World.size_alloc] at this; exact this
                       obtain ⟨b2, o2, eb, y2, q3, q4⟩ := (hout4.keepS hinN' HNN.out).at hjl
                       injection eb with eb
                       injection eb with eb1 eb2 _
                       subst eb1 eb2
                       have eyy : y2 = y := ba_ext (q4.trans HY.out.symm)
                       subst eyy
                       clear hout4 hgrow4 hway4 q4)
                    | (at_builtin; refine wpList_appendSw rfl _ _ rfl wo.heap.size _ _ rfl (OwnS.alloc hown4 (.cells #[.string y2] 9)) _ _ _ _ rfl rfl (hiny _) (by simp only [List.length_append, List.length_cons, List.length_nil]; omega) (by simp; omega) ?_
                       intro v5 w5 hown5 hgrow5 hway5))
                  have hout5 := OutS.app (OutS.alloc HOUT4.out _) hown5 hgrow5 hway5
                  go_roundw
                  case rel => exact ⟨j + 1, by omega, by go_num, by rw [HSP.out, HS.out, HST.out], by rw [HSP.out, HS.out, HST.out]; exact hout5⟩
                  case measure => simp [intOf]; omega
                · have hl4 : y.data.toList < x.data.toList := lt_of_le_ne (List.not_lt.1 hL) (fun e => hE e.symm)
                  have hl3 : Op.bytesLess y.toList x.toList = true := by rw [hlt2]; exact decide_eq_true hl4
                  have HST := Lib.hid (show stepR x.data.toList (S, false) N[j] = (S ++ [y.data.toList], false) by rw [← HY.out]; simp [stepR, hE, hL])
                  clear hE hlt2 hL hl4
                  go_wp2
                  go_quiet (fail)
                  go_wp2_with fail
                  go_quiet (fail)
                  go_wp2_with (at_builtin; refine wpList_appendSw rfl _ _ rfl wo.heap.size _ _ rfl (OwnS.alloc (OwnS.drewN hownj _) (.cells #[.string y] 9)) _ _ _ _ rfl rfl (hiny _) (by simp only [List.length_cons, List.length_nil]; omega) (by simp; omega) ?_; intro v4 w4 hown4 hgrow4 hway4)
                  have hout4 := OutS.app (OutS.alloc (OutS.drewN HOUT.out _) _) hown4 hgrow4 hway4
                  go_roundw
                  case rel => exact ⟨j + 1, by omega, by go_num, by rw [HSP.out, HS.out, HST.out], by rw [HSP.out, HS.out, HST.out]; exact hout4⟩
                  case measure => simp [intOf]; omega
          · obtain rfl : j = N.length := by omega
            rw [List.take_length] at hownj hpl HOUT ⊢
            have hins : insR x.data.toList N = if (partR x.data.toList N).2 then (partR x.data.toList N).1 else (partR x.data.toList N).1 ++ [x.data.toList] := rfl
            have hgS := HSN.out
            rw [← HX.out, hins] at hgS
            obtain ⟨S, hS⟩ : ∃ S, S = (partR x.data.toList N).1 := ⟨_, rfl⟩
            obtain ⟨pt, hpt⟩ : ∃ pt, pt = (partR x.data.toList N).2 := ⟨_, rfl⟩
            rw [← hS] at hownj hpl HOUT hgS
            rw [← hpt] at hgS ⊢
            have hbF := HOUT.out.final (hbm) (fun g e => by injection e with e; omega)
            cases pt with
            | true =>
              have HG := Lib.hid hgS
              clear hS hpt hgS hout
              go_wp2_with fail
              go_roundw
              case rel => exact ⟨k + 1, by omega, by go_num, by rw [HG.out]; exact hownj.mono hbs, hbF, HNX.out⟩
              case measure => simp [intOf]; omega
            | false =>
              have HG := Lib.hid hgS
              have hinx := fun W => InS.one W x
              clear hS hpt hgS hout
              go_wp2_with (at_builtin; refine wpList_appendSw rfl _ _ rfl wo.heap.size _ _ rfl (OwnS.alloc hownj (.cells #[.string x] 9)) _ _ _ _ rfl rfl (hinx _) (by simp only [List.length_cons, List.length_nil]; omega) (by simp; omega) ?_; intro v4 w4 hown4 hgrow4 hway4)
              have hout4 := OutS.app (OutS.alloc HOUT.out _) hown4 hgrow4 hway4
              have hbF4 := hout4.final (hbm) (fun g e => by injection e with e; omega)
              go_roundw
              case rel => exact ⟨k + 1, by omega, by go_num, by rw [HG.out]; exact hown4.mono hbs, hbF4, HNX.out⟩
              case measure => simp [intOf]; omega
    · obtain rfl : k = V.length := by omega
      rw [List.take_length] at hown HNO
      have HR := Lib.hid (namesT_no L (by rw [← HV.out]; exact HNO.out))
      rw [namesR_eq, HV.out] at hown
      go_wp2_with fail
      go_ret2
      exact ⟨_, by rw [HR.out]; rfl, by rw [HR.out]; exact hown.mono hs1, hb1.trans (hb.mono hs1)⟩
end Go.Proofs.YtnibecboimgljaaDoor
