/-
  read: the table of the values' directives.
-/
import Derived.Test.YtnengooipemffaaDoorTable
import Derived.Test.YtnengooipemffaaDoorUnquote
import Derived.Test.YtnengooipemffaaDoorCut
import Derived.Test.YtnengooipemffaaDoorList
import Derived.Test.YtnengooipemffaaDoorFold
namespace Go.Proofs.YtnengooipemffaaDoor
open Go.RowKit

theorem prefix_one (c : UInt8) (l : List UInt8) : Lib.hasPrefix l [c] = decide (l.head? = some c) := by
  unfold Lib.hasPrefix
  cases l with
  | nil => simp [List.isPrefixOf]
  | cons x r =>
    by_cases h : x = c
    · subst h; simp [List.isPrefixOf]
    · have h2 : ¬ c = x := fun e => h e.symm
      simp [List.isPrefixOf, h, h2]
theorem hasPre (c : UInt8) (s : ByteArray) (w : World) :
    Calls Tryd.prog 41 #[.string s, .string ⟨#[c]⟩] w fun e w' => e = .returned (.bool (decide (s.data.toList.head? = some c))) ∧ w = w' := by
  have h := Tryd.strings_HasPrefix s ⟨#[c]⟩ w
  rw [show (⟨#[c]⟩ : ByteArray).data.toList = [c] from rfl, prefix_one] at h
  exact h.mono fun _ _ ⟨h1, h2⟩ => ⟨h1, h2.symm⟩

/-- a directive: its name, its argument, and whether it has one -/
def dirC : Option (List UInt8 × List UInt8) → List UInt8 → Ent
  | none, d => (fold d, ([], false))
  | some (a, b), _ => (fold a, (if b.head? = some 34 then unqT b else b, true))
def dirT (d : List UInt8) : Ent := dirC (cutB 61 d) d
/-- all directives of the values -/
def dirsOf (V : List (List UInt8)) : List Ent := V.flatMap fun v => (listOf v).map dirT
theorem dirs_snoc (V : List (List UInt8)) (k : Nat) (h : k < V.length) : dirsOf (V.take (k + 1)) = dirsOf (V.take k) ++ (listOf V[k]).map dirT := by
  unfold dirsOf
  rw [List.take_succ_eq_append_getElem h, List.flatMap_append]
  simp
theorem dirmap_snoc (E : List (List UInt8)) (k : Nat) (h : k < E.length) : (E.take (k + 1)).map dirT = (E.take k).map dirT ++ [dirT E[k]] := by
  rw [List.take_succ_eq_append_getElem h, List.map_append]; rfl
theorem same_step (T D : List Ent) (d : Ent) (h : ∀ k, lookM T k = lookM D k) (hs : (lookM T d.1).isSome = true) : ∀ k, lookM T k = lookM (D ++ [d]) k := by
  intro k
  rw [lookM_snoc, ← h k]
  by_cases e : d.1 = k
  · subst e
    cases hx : lookM T d.1 with
    | none => rw [hx] at hs; cases hs
    | some x => rfl
  · rw [if_neg e]; cases lookM T k <;> rfl
theorem put_step (T D : List Ent) (d : Ent) (h : ∀ k, lookM T k = lookM D k) : ∀ k, lookM (T ++ [d]) k = lookM (D ++ [d]) k := by
  intro k
  rw [lookM_snoc, lookM_snoc, h k]
theorem InS.only {w w' : World} {A : Nat → Prop} {p : Option Addr} {L : List (List UInt8)} (h : InS w p L) (hon : Only A w w') (hd : ∀ a, 0 < L.length → p = some a → ¬ A a.block) : InS w' p L := by
  intro h0
  obtain ⟨b, o, rfl, hc⟩ := h h0
  refine ⟨b, o, rfl, fun i hi => ?_⟩
  exact hon.cell (hc i hi) (show ¬ A b from hd _ (by rwa [tx_length] at h0) rfl)
theorem unqF_len : ∀ (l acc m : List UInt8) (e : Bool), unqF l acc e = some m → m.length ≤ acc.length + l.length
  | [], acc, m, e, h => by cases e <;> simp [unqF] at h
  | x :: r, acc, m, true, h => by
    rw [unqF] at h
    split at h
    · cases h
    · split at h
      · have := unqF_len r _ m false h; simp at this ⊢; omega
      · cases h
  | x :: r, acc, m, false, h => by
    rw [unqF] at h
    split at h
    · split at h
      · cases h; simp
      · cases h
    · split at h
      · have := unqF_len r _ m true h; simp at this ⊢; omega
      · split at h
        · have := unqF_len r _ m false h; simp at this ⊢; omega
        · cases h
theorem unqT_len (l : List UInt8) : (unqT l).length ≤ l.length := by
  unfold unqT
  cases h : unq l with
  | none => simp
  | some m =>
    unfold unq at h
    cases l with
    | nil => cases h
    | cons x r =>
      simp only at h
      split at h
      · have := unqF_len r [] m false h; simp at this ⊢; omega
      · cases h

/-- what a directive weighs -/
theorem dirT_small (d : List UInt8) : (dirT d).1.length ≤ d.length ∧ (dirT d).2.1.length ≤ d.length := by
  unfold dirT
  cases h : cutB 61 d with
  | none => simp [dirC, fold_length]
  | some p =>
    obtain ⟨a, b⟩ := p
    have hl := cutB_len 61 d a b h
    have hu := unqT_len b
    simp only [dirC, fold_length]
    split <;> omega

set_option maxHeartbeats 8000000 in
theorem read_any (V : List (List UInt8)) (p : Option Addr) (n c : Nat) (hn : V.length = n) (hr : n ≤ 4000000) (w : World) (h : InS w p V) (hV : ∀ v ∈ V, v.length ≤ 4000000) (hMC : MaxC w) :
    Calls Tryd.prog 20 #[.slice p n c] w fun e w' => ∃ b T, e = .returned (.map (some b)) ∧ OwnM w' b T ∧ bigOK T ∧ (∀ k, lookM T k = lookM (dirsOf V) k) ∧ Below w.heap.size w w' := by
  subst hn
  have HV := Lib.hid hV
  clear hV
  have hmm := @run_makeMap Tryd.prog
  go_enter Tryd.func20, Tryd.ntmps20
  go_wp2_with fail
  go_loopw [14] (fun i wr => ∃ (k : Nat) (T : List Ent), k ≤ V.length ∧ i = .int .i64 k ∧ OwnM wr w.heap.size T ∧ bigOK T ∧ (∀ q, lookM T q = lookM (dirsOf (V.take k)) q) ∧ Below w.heap.size w wr) (fun i _ => V.length - (intOf i).toNat)
  case atStart => exact ⟨0, [], by omega, rfl, OwnM.made w, (fun x hx => absurd hx (by simp)), fun q => rfl, (Below.refl _ _).alloc (Nat.le_refl _) _⟩
  case round =>
    obtain ⟨k, T0, hk, rfl, hM0, hT0, hL0, hb⟩ := hrel
    have hbs := hb.size
    have HT0 := Lib.hid hT0
    have HL0 := Lib.hid hL0
    clear hT0 hL0
    obtain ⟨wo, rfl⟩ : ∃ W, W = wr := ⟨_, rfl⟩
    by_cases hlt : k < V.length
    · obtain ⟨b', o', rfl, v, hck, hv⟩ := (h.below hb).at hlt
      have hvs : v.size ≤ 4000000 := by rw [← size_list, hv]; exact HV.out _ (List.getElem_mem hlt)
      have HVV := Lib.hid (dirs_snoc V k hlt)
      have HVE := Lib.hid hv
      clear hv
      go_wp2_with fail
      refine (tokList_any v _ (by omega)).mono ?_
      rintro e w1 ⟨vl, rfl, hownl, hb1⟩
      have hlen := listOf_length v.data.toList
      obtain ⟨E, hE⟩ : ∃ E, E = listOf v.data.toList := ⟨_, rfl⟩
      have HEL := Lib.hid (show ∀ x ∈ E, x.length ≤ 4000000 by
        intro x hx
        rw [hE] at hx
        have := (listOf_el _ x hx).2.2.1
        rw [size_list] at this
        omega)
      rw [← hE] at hownl hlen
      rw [size_list] at hlen
      have HE := Lib.hid hE
      obtain ⟨q, cq, rfl, _, _, hinE, hqa⟩ := hownl.shape rfl
      have hlo := hM0.lt
      have HQ := Lib.hid (show ∀ a, q = some a → w.heap.size < a.block from fun a e => by have := (hqa a e).1; omega)
      have hB1 := hb.trans (hb1.mono hbs)
      have hM1 := hM0.below hb1
      clear hE hownl hqa
      go_wp2_with fail
      go_loopw [21] (fun i wj => ∃ (j : Nat) (T : List Ent), j ≤ E.length ∧ i = .int .i64 j ∧ OwnM wj w.heap.size T ∧ bigOK T ∧ (∀ q, lookM T q = lookM (dirsOf (V.take k) ++ (E.take j).map dirT) q) ∧ InS wj q E ∧ Below w.heap.size w wj) (fun i _ => E.length - (intOf i).toNat)
      case atStart => exact ⟨0, T0, by omega, rfl, hM1, HT0.out, by simpa using HL0.out, hinE, hB1⟩
      case round =>
        clear hM0 hM1 hB1 hinE hb hbs hb1 hlo hck
        obtain ⟨j, T, hj, rfl, hM, hT, hL, hE, hB⟩ := hrel
        have hBs := hB.size
        have HT := Lib.hid hT
        have HL := Lib.hid hL
        clear hT hL
        by_cases hjl : j < E.length
        · obtain ⟨b2, o2, rfl, x, hcx, hx⟩ := hE.at hjl
          have hxs : x.size ≤ 4000000 := by rw [← size_list, hx]; exact HEL.out _ (List.getElem_mem hjl)
          have HJ := Lib.hid (dirmap_snoc E j hjl)
          have HX := Lib.hid hx
          clear hx
          have hmc := hMC.below hB
          cases hc : cutB 61 x.data.toList with
          | none =>
            have HD := Lib.hid (show dirT x.data.toList = (fold x.data.toList, ([], false)) by unfold dirT; rw [hc]; rfl)
            have hcut := cut_none 61 x wr hmc (by omega) hc
            clear hc
            go_wp2_with fail
            refine hcut.mono ?_
            rintro e w2 ⟨rfl, hb2⟩
            go_wp2_with fail
            refine (hasPre 34 ⟨#[]⟩ w2).mono ?_
            rw [show decide ((⟨#[]⟩ : ByteArray).data.toList.head? = some 34) = false from rfl]
            rintro e w3 ⟨rfl, rfl⟩
            have hBq := hB.trans (hb2.mono hBs)
            have hMq := hM.below hb2
            have hEq := hE.below hb2
            clear hcut hM hE hcx
            have hsz8 : (x).size ≤ 140737488351232 := by omega
            go_wp2_with fail
            refine (tokFold_any (x) _ hsz8).mono ?_
            rintro e w5 ⟨rfl, hb5⟩
            have hB5 := hBq.trans (hb5.mono hBq.size)
            have hM5 := hMq.below hb5
            have hE5 := hEq.below hb5
            obtain ⟨fn, hfn⟩ : ∃ f : ByteArray, f = ⟨(fold (x).data.toList).toArray⟩ := ⟨_, rfl⟩
            have hfd : fn.data.toList = (dirT x.data.toList).1 := by rw [hfn, HD.out]
            have hfs : fn.size ≤ 4000000 := by rw [← size_list, hfd]; exact Nat.le_trans (dirT_small _).1 (by rw [size_list]; exact hxs)
            rw [← hfn]
            have HFD := Lib.hid hfd
            have hN1 := InS.one w5 fn
            have hb6 := (Below.refl w5.heap.size w5).alloc (Nat.le_refl _) (.cells #[.string fn] 9)
            have hcall := has_any T w.heap.size HT.out [fn.data.toList] _ 1 1 rfl (by omega) (w5.alloc (.cells #[.string fn] 9)) (by intro y hy; rw [List.mem_singleton.1 hy, size_list]; omega) (hM5.below hb6) hN1
            have eh : hasM T [fn.data.toList] = (lookM T (dirT x.data.toList).1).isSome := by rw [HFD.out]; simp [hasM]
            rw [eh] at hcall
            clear hfn hfd eh hN1
            go_wp2_with fail
            refine hcall.mono ?_
            rintro e w7 ⟨rfl, hb7⟩
            have hb7' := hb6.trans (hb7.mono (by simp))
            have hB7 := hB5.trans (hb7'.mono hB5.size)
            have hM7 := hM5.below hb7'
            have hE7 := hE5.below hb7'
            have hs7 := hB7.size
            clear hcall hb6 hb7 hM5 hE5
            cases hsm : (lookM T (dirT x.data.toList).1).isSome
            · have hno : lookM T (dirT x.data.toList).1 = none := by cases hx : lookM T (dirT x.data.toList).1 with | none => rfl | some y => rw [hx] at hsm; cases hsm
              obtain ⟨w8, hput, hM8, hon8⟩ := run_putM hM7 (bigOK_keys HT.out) fn ((⟨#[]⟩ : ByteArray)) false (by unfold maxLen; omega) (by rw [HFD.out]; exact hno)
              have hB8 := hB7.trans (hon8.below (B := w.heap.size) (fun g e => by omega) hs7)
              have hE8 := hE7.only hon8 (fun a h0 e => by have := HQ.out a e; omega)
              have hent : ((fn.data.toList, (((⟨#[]⟩ : ByteArray)).data.toList, false)) : Ent) = dirT x.data.toList := by rw [HFD.out, HD.out]
              rw [hent] at hM8
              have HM8 := Lib.hid hM8
              have HE8 := Lib.hid hE8
              have HT8 := Lib.hid (show bigOK (T ++ [dirT x.data.toList]) by
                intro y hy
                rcases List.mem_append.1 hy with hy | hy
                · exact HT.out y hy
                · rw [List.mem_singleton.1 hy]
                  have := dirT_small x.data.toList
                  rw [size_list] at this
                  exact ⟨by omega, by omega⟩)
              have HL8 := Lib.hid (put_step T _ (dirT x.data.toList) HL.out)
              clear hsm hno hon8 hM8 hE8 hent hM7 hE7
              go_wp2_with fail
              go_roundw
              case rel => exact ⟨j + 1, _, by omega, by go_num, HM8.out, HT8.out, by rw [HJ.out, ← HX.out, ← List.append_assoc]; exact HL8.out, HE8.out, hB8⟩
              case measure => simp [intOf]; omega
            · have HL8 := Lib.hid (same_step T _ (dirT x.data.toList) HL.out hsm)
              clear hsm
              go_wp2_with fail
              go_roundw
              case rel => exact ⟨j + 1, T, by omega, by go_num, hM7, HT.out, by rw [HJ.out, ← HX.out, ← List.append_assoc]; exact HL8.out, hE7, hB7⟩
              case measure => simp [intOf]; omega
          | some pr =>
            obtain ⟨a, bb⟩ := pr
            have hl2 := cutB_len 61 _ a bb hc
            rw [size_list] at hl2
            have hcut := cut_some 61 x wr hmc (by omega) a bb hc
            obtain ⟨na, hna⟩ : ∃ na : ByteArray, na = ⟨a.toArray⟩ := ⟨_, rfl⟩
            obtain ⟨nb, hnb⟩ : ∃ nb : ByteArray, nb = ⟨bb.toArray⟩ := ⟨_, rfl⟩
            have hnad : na.data.toList = a := by rw [hna]
            have hnbd : nb.data.toList = bb := by rw [hnb]
            have hnas : na.size ≤ 4000000 := by rw [← size_list, hnad]; omega
            have hnbs : nb.size ≤ 4000000 := by rw [← size_list, hnbd]; omega
            rw [← hna, ← hnb] at hcut
            have HD0 := Lib.hid (show dirT x.data.toList = (fold na.data.toList, (if nb.data.toList.head? = some 34 then unqT nb.data.toList else nb.data.toList, true)) by unfold dirT; rw [hc, hnad, hnbd]; rfl)
            clear hc hna hnb hnad hnbd hl2
            go_wp2_with fail
            refine hcut.mono ?_
            rintro e w2 ⟨rfl, hb2⟩
            have hBq := hB.trans (hb2.mono hBs)
            have hMq := hM.below hb2
            have hEq := hE.below hb2
            clear hcut hM hE hcx
            have hpre := hasPre 34 nb w2
            by_cases hh : nb.data.toList.head? = some 34
            · rw [decide_eq_true hh] at hpre
              have HD := Lib.hid (show dirT x.data.toList = (fold na.data.toList, (unqT nb.data.toList, true)) by rw [HD0.out, if_pos hh])
              clear hh
              go_wp2_with fail
              refine hpre.mono ?_
              rintro e w3 ⟨rfl, rfl⟩
              clear hpre
              go_wp2_with fail
              refine (unquote_any nb _ (by omega)).mono ?_
              rintro e w4 ⟨rfl, hb4⟩
              have hBq := hBq.trans (hb4.mono hBq.size)
              have hMq := hMq.below hb4
              have hEq := hEq.below hb4
              have hsz8 : (na).size ≤ 140737488351232 := by omega
              go_wp2_with fail
              refine (tokFold_any (na) _ hsz8).mono ?_
              rintro e w5 ⟨rfl, hb5⟩
              have hB5 := hBq.trans (hb5.mono hBq.size)
              have hM5 := hMq.below hb5
              have hE5 := hEq.below hb5
              obtain ⟨fn, hfn⟩ : ∃ f : ByteArray, f = ⟨(fold (na).data.toList).toArray⟩ := ⟨_, rfl⟩
              have hfd : fn.data.toList = (dirT x.data.toList).1 := by rw [hfn, HD.out]
              have hfs : fn.size ≤ 4000000 := by rw [← size_list, hfd]; exact Nat.le_trans (dirT_small _).1 (by rw [size_list]; exact hxs)
              rw [← hfn]
              have HFD := Lib.hid hfd
              have hN1 := InS.one w5 fn
              have hb6 := (Below.refl w5.heap.size w5).alloc (Nat.le_refl _) (.cells #[.string fn] 9)
              have hcall := has_any T w.heap.size HT.out [fn.data.toList] _ 1 1 rfl (by omega) (w5.alloc (.cells #[.string fn] 9)) (by intro y hy; rw [List.mem_singleton.1 hy, size_list]; omega) (hM5.below hb6) hN1
              have eh : hasM T [fn.data.toList] = (lookM T (dirT x.data.toList).1).isSome := by rw [HFD.out]; simp [hasM]
              rw [eh] at hcall
              clear hfn hfd eh hN1
              go_wp2_with fail
              refine hcall.mono ?_
              rintro e w7 ⟨rfl, hb7⟩
              have hb7' := hb6.trans (hb7.mono (by simp))
              have hB7 := hB5.trans (hb7'.mono hB5.size)
              have hM7 := hM5.below hb7'
              have hE7 := hE5.below hb7'
              have hs7 := hB7.size
              clear hcall hb6 hb7 hM5 hE5
              cases hsm : (lookM T (dirT x.data.toList).1).isSome
              · have hno : lookM T (dirT x.data.toList).1 = none := by cases hx : lookM T (dirT x.data.toList).1 with | none => rfl | some y => rw [hx] at hsm; cases hsm
                obtain ⟨w8, hput, hM8, hon8⟩ := run_putM hM7 (bigOK_keys HT.out) fn ((⟨(unqT nb.data.toList).toArray⟩ : ByteArray)) true (by unfold maxLen; omega) (by rw [HFD.out]; exact hno)
                have hB8 := hB7.trans (hon8.below (B := w.heap.size) (fun g e => by omega) hs7)
                have hE8 := hE7.only hon8 (fun a h0 e => by have := HQ.out a e; omega)
                have hent : ((fn.data.toList, (((⟨(unqT nb.data.toList).toArray⟩ : ByteArray)).data.toList, true)) : Ent) = dirT x.data.toList := by rw [HFD.out, HD.out]
                rw [hent] at hM8
                have HM8 := Lib.hid hM8
                have HE8 := Lib.hid hE8
                have HT8 := Lib.hid (show bigOK (T ++ [dirT x.data.toList]) by
                  intro y hy
                  rcases List.mem_append.1 hy with hy | hy
                  · exact HT.out y hy
                  · rw [List.mem_singleton.1 hy]
                    have := dirT_small x.data.toList
                    rw [size_list] at this
                    exact ⟨by omega, by omega⟩)
                have HL8 := Lib.hid (put_step T _ (dirT x.data.toList) HL.out)
                clear hsm hno hon8 hM8 hE8 hent hM7 hE7
                go_wp2_with fail
                go_roundw
                case rel => exact ⟨j + 1, _, by omega, by go_num, HM8.out, HT8.out, by rw [HJ.out, ← HX.out, ← List.append_assoc]; exact HL8.out, HE8.out, hB8⟩
                case measure => simp [intOf]; omega
              · have HL8 := Lib.hid (same_step T _ (dirT x.data.toList) HL.out hsm)
                clear hsm
                go_wp2_with fail
                go_roundw
                case rel => exact ⟨j + 1, T, by omega, by go_num, hM7, HT.out, by rw [HJ.out, ← HX.out, ← List.append_assoc]; exact HL8.out, hE7, hB7⟩
                case measure => simp [intOf]; omega
            · rw [decide_eq_false hh] at hpre
              have HD := Lib.hid (show dirT x.data.toList = (fold na.data.toList, (nb.data.toList, true)) by rw [HD0.out, if_neg hh])
              clear hh
              go_wp2_with fail
              refine hpre.mono ?_
              rintro e w3 ⟨rfl, rfl⟩
              clear hpre
              have hsz8 : (na).size ≤ 140737488351232 := by omega
              go_wp2_with fail
              refine (tokFold_any (na) _ hsz8).mono ?_
              rintro e w5 ⟨rfl, hb5⟩
              have hB5 := hBq.trans (hb5.mono hBq.size)
              have hM5 := hMq.below hb5
              have hE5 := hEq.below hb5
              obtain ⟨fn, hfn⟩ : ∃ f : ByteArray, f = ⟨(fold (na).data.toList).toArray⟩ := ⟨_, rfl⟩
              have hfd : fn.data.toList = (dirT x.data.toList).1 := by rw [hfn, HD.out]
              have hfs : fn.size ≤ 4000000 := by rw [← size_list, hfd]; exact Nat.le_trans (dirT_small _).1 (by rw [size_list]; exact hxs)
              rw [← hfn]
              have HFD := Lib.hid hfd
              have hN1 := InS.one w5 fn
              have hb6 := (Below.refl w5.heap.size w5).alloc (Nat.le_refl _) (.cells #[.string fn] 9)
              have hcall := has_any T w.heap.size HT.out [fn.data.toList] _ 1 1 rfl (by omega) (w5.alloc (.cells #[.string fn] 9)) (by intro y hy; rw [List.mem_singleton.1 hy, size_list]; omega) (hM5.below hb6) hN1
              have eh : hasM T [fn.data.toList] = (lookM T (dirT x.data.toList).1).isSome := by rw [HFD.out]; simp [hasM]
              rw [eh] at hcall
              clear hfn hfd eh hN1
              go_wp2_with fail
              refine hcall.mono ?_
              rintro e w7 ⟨rfl, hb7⟩
              have hb7' := hb6.trans (hb7.mono (by simp))
              have hB7 := hB5.trans (hb7'.mono hB5.size)
              have hM7 := hM5.below hb7'
              have hE7 := hE5.below hb7'
              have hs7 := hB7.size
              clear hcall hb6 hb7 hM5 hE5
              cases hsm : (lookM T (dirT x.data.toList).1).isSome
              · have hno : lookM T (dirT x.data.toList).1 = none := by cases hx : lookM T (dirT x.data.toList).1 with | none => rfl | some y => rw [hx] at hsm; cases hsm
                obtain ⟨w8, hput, hM8, hon8⟩ := run_putM hM7 (bigOK_keys HT.out) fn (nb) true (by unfold maxLen; omega) (by rw [HFD.out]; exact hno)
                have hB8 := hB7.trans (hon8.below (B := w.heap.size) (fun g e => by omega) hs7)
                have hE8 := hE7.only hon8 (fun a h0 e => by have := HQ.out a e; omega)
                have hent : ((fn.data.toList, ((nb).data.toList, true)) : Ent) = dirT x.data.toList := by rw [HFD.out, HD.out]
                rw [hent] at hM8
                have HM8 := Lib.hid hM8
                have HE8 := Lib.hid hE8
                have HT8 := Lib.hid (show bigOK (T ++ [dirT x.data.toList]) by
                  intro y hy
                  rcases List.mem_append.1 hy with hy | hy
                  · exact HT.out y hy
                  · rw [List.mem_singleton.1 hy]
                    have := dirT_small x.data.toList
                    rw [size_list] at this
                    exact ⟨by omega, by omega⟩)
                have HL8 := Lib.hid (put_step T _ (dirT x.data.toList) HL.out)
                clear hsm hno hon8 hM8 hE8 hent hM7 hE7
                go_wp2_with fail
                go_roundw
                case rel => exact ⟨j + 1, _, by omega, by go_num, HM8.out, HT8.out, by rw [HJ.out, ← HX.out, ← List.append_assoc]; exact HL8.out, HE8.out, hB8⟩
                case measure => simp [intOf]; omega
              · have HL8 := Lib.hid (same_step T _ (dirT x.data.toList) HL.out hsm)
                clear hsm
                go_wp2_with fail
                go_roundw
                case rel => exact ⟨j + 1, T, by omega, by go_num, hM7, HT.out, by rw [HJ.out, ← HX.out, ← List.append_assoc]; exact HL8.out, hE7, hB7⟩
                case measure => simp [intOf]; omega
        · obtain rfl : j = E.length := by omega
          rw [List.take_length] at HL
          have HLE := Lib.hid (show ∀ q, lookM T q = lookM (dirsOf (V.take (k + 1))) q by
            rw [HVV.out, ← show v.data.toList = V[k] from HVE.out, ← show E = listOf v.data.toList from HE.out]; exact HL.out)
          go_wp2_with fail
          go_roundw
          case rel => exact ⟨k + 1, T, by omega, by go_num, hM, HT.out, HLE.out, hB⟩
          case measure => simp [intOf]; omega
    · obtain rfl : k = V.length := by omega
      rw [List.take_length] at HL0
      go_wp2_with fail
      go_ret
      exact ⟨_, T0, rfl, hM0, HT0.out, HL0.out, hb⟩
end Go.Proofs.YtnengooipemffaaDoor
