/-
  Tokens, the program's and the document's: the elements of a name's values, in small letters.
-/
import Derived.Test.YtnibecboimgljaaDoorFields
import Derived.Test.YtnibecboimgljaaDoorList
import Derived.Test.YtnibecboimgljaaDoorAppendW
namespace Go.Proofs.YtnibecboimgljaaDoor
open Go.RowKit

def wordsOf (v : List UInt8) : List (List UInt8) := (listOf v).map fold
/-- the elements of a name's values -/
def tokensOf (L : List Pair) (n : List UInt8) : List (List UInt8) := (valuesOf L n).flatMap wordsOf
theorem flat_snoc (V : List (List UInt8)) (k : Nat) (h : k < V.length) : (V.take (k + 1)).flatMap wordsOf = (V.take k).flatMap wordsOf ++ wordsOf V[k] := by
  rw [List.take_succ_eq_append_getElem h, List.flatMap_append]; simp
theorem flat_len (V : List (List UInt8)) (k : Nat) : ((V.take k).flatMap wordsOf).length ≤ (V.flatMap wordsOf).length := by
  conv => rhs; rw [← List.take_append_drop k V, List.flatMap_append, List.length_append]
  omega
theorem flat_len2 (V : List (List UInt8)) (k j : Nat) (h : k < V.length) : ((V.take k).flatMap wordsOf ++ ((listOf V[k]).take j).map fold).length ≤ (V.flatMap wordsOf).length := by
  have h1 := flat_len V (k + 1)
  rw [flat_snoc V k h, List.length_append] at h1
  rw [List.length_append, List.length_map, List.length_take]
  unfold wordsOf at h1 ⊢
  rw [List.length_map] at h1
  omega
theorem mapfold_snoc (E : List (List UInt8)) (j : Nat) (h : j < E.length) : (E.take (j + 1)).map fold = (E.take j).map fold ++ [fold E[j]] := by
  rw [List.take_succ_eq_append_getElem h, List.map_append]; rfl

/-- the inner loop's state -/
def TokIn (B : Nat) (row : Option Nat) (w1 : World) (sE : Nat) (pE : Option Addr) (E A : List (List UInt8)) (v i : Value) (wj : World) (j : Nat) : Prop :=
  j ≤ E.length ∧ i = .int .i64 j ∧ OutS B row w1 v (A ++ (E.take j).map fold) wj ∧ InS wj pE E ∧ (∀ a, pE = some a → v.ownBlock ≠ some a.block ∧ a.block < sE) ∧ sE ≤ wj.heap.size
theorem tokIn_start {B : Nat} {row : Option Nat} {w1 wr wE : World} {v : Value} {A E : List (List UInt8)} {pE : Option Addr} (hown : OutS B row w1 v A wr) (hbE : Below wr.heap.size wr wE)
    (hin : InS wE pE E) (hpE : ∀ a, pE = some a → wr.heap.size ≤ a.block ∧ a.block < wE.heap.size) : TokIn B row w1 wE.heap.size pE E A v (.int .i64 (0 : Nat)) wE 0 := by
  refine ⟨Nat.zero_le _, rfl, by simpa using hown.below hbE, hin, fun a ha => ⟨fun e => ?_, (hpE a ha).2⟩, Nat.le_refl _⟩
  have := (World.ownsRow.lt hown.own _ e).2
  have := (hpE a ha).1
  omega
theorem tokIn_step {B : Nat} {row : Option Nat} {w1 wj wf w2 : World} {sE j : Nat} {pE : Option Addr} {E A : List (List UInt8)} {v i v2 i' : Value} {o : Obj} {x : List UInt8} (h : TokIn B row w1 sE pE E A v i wj j) (hj : j < E.length) (hx : x = fold E[j])
    (hf : Below wj.heap.size wj wf) (hown : OwnS w2 B v2 ((A ++ (E.take j).map fold) ++ [x])) (hgr : (wf.alloc o).grownBy w2 v.ownBlock) (hway : Way (wf.alloc o) v v2) (hi : i' = .int .i64 ((j + 1 : Nat) : Int)) :
    TokIn B row w1 sE pE E A v2 i' w2 (j + 1) := by
  obtain ⟨h1, h2, h3, h4, h5, h6⟩ := h
  have hsf := hf.size
  have hsz : (wf.alloc o).heap.size = wf.heap.size + 1 := World.size_alloc _ _
  have hsg := hgr.size
  refine ⟨by omega, hi, ?_, ((h4.below hf).alloc o).kept hgr (fun a ha => (h5 a ha).1), fun a ha => ⟨fun e => ?_, (h5 a ha).2⟩, by omega⟩
  · rw [mapfold_snoc E j hj, ← hx, ← List.append_assoc]; exact ((h3.below hf).alloc o).app hown hgr hway
  · rcases hway _ e with h | h
    · exact (h5 a ha).1 h
    · have := (h5 a ha).2; omega

set_option maxHeartbeats 8000000 in
set_option maxRecDepth 100000 in
theorem tokens_any (L : List Pair) (p : Option Addr) (n c : Nat) (hn : L.length = n) (hr : n ≤ 4000000000000) (nm : ByteArray) (hnm : nm.size ≤ 140737488351232) (hsz : ∀ x ∈ L, x.1.length ≤ 140737488351232 ∧ x.2.length ≤ 4000000000) (hT : (tokensOf L nm.data.toList).length ≤ 8000000000000) (w : World) (h : In2 w p L) :
    Calls Tryd.prog 24 #[.slice p n c, .string nm] w fun e w' => ∃ v, e = .returned v ∧ OwnS w' w.heap.size v (tokensOf L nm.data.toList) ∧ Below w.heap.size w w' := by
  subst hn
  have HV1 := Lib.hid (fun x hx => (hsz x hx).1)
  have HV2 := Lib.hid (show ∀ v ∈ valuesOf L nm.data.toList, v.length ≤ 4000000000 from fun v hv => by obtain ⟨x, hx, e⟩ := values_mem L nm.data.toList v hv; rw [← e]; exact (hsz x hx).2)
  have hvl := values_length L nm.data.toList
  have htk : tokensOf L nm.data.toList = (valuesOf L nm.data.toList).flatMap wordsOf := rfl
  rw [htk] at hT ⊢
  clear hsz htk
  go_enter Tryd.func24, Tryd.ntmps24
  go_wp2_with fail
  refine (values_any L p _ c rfl (by omega) nm hnm HV1.out w h).mono ?_
  rintro e w1 ⟨v1, rfl, hown1, hb1⟩
  have hs1 := hb1.size
  obtain ⟨V, hV⟩ : ∃ V, V = valuesOf L nm.data.toList := ⟨_, rfl⟩
  rw [← hV] at hT hown1 hvl HV2
  have HVV := Lib.hid hV
  clear hV h
  obtain ⟨pv, cv, rfl, k1, k2, hinV, _⟩ := hown1.shape rfl
  have HNE := Lib.hid (show ∀ a, pv = some a → (none : Option Nat) ≠ some a.block from fun a _ e => by cases e)
  unfold maxLen at k2
  clear hown1
  go_wp2_with fail
  go_loopw [5, 14] (fun v i wr => ∃ k : Nat, k ≤ V.length ∧ i = .int .i64 k ∧ OutS w1.heap.size none w1 v ((V.take k).flatMap wordsOf) wr) (fun _ i _ => V.length - (intOf i).toNat)
  case atStart => exact ⟨0, by omega, rfl, OutV.nil _ _ _ _⟩
  case round =>
    obtain ⟨k, hk, rfl, hout⟩ := hrel
    have hbs := hout.2.1.size
    have hown := hout.own
    by_cases hlt : k < V.length
    · obtain ⟨b, o, rfl, x, g1, g2⟩ := (hout.keepS hinV HNE.out).at hlt
      have hxs : x.size ≤ 4000000000 := by rw [← size_list, g2]; exact HV2.out _ (List.getElem_mem hlt)
      have HX := Lib.hid g2
      have HF := Lib.hid (flat_snoc V k hlt)
      have HL := Lib.hid (fun j => flat_len2 V k j hlt)
      clear g2
      go_wp2_with fail
      refine (tokList_any x _ hxs).mono ?_
      rintro e wE ⟨vE, rfl, hownE, hbE⟩
      have hel := HX.out
      obtain ⟨E, hE⟩ : ∃ E, E = listOf x.data.toList := ⟨_, rfl⟩
      rw [← hE] at hownE
      have hmem : ∀ y ∈ E, y.length ≤ 4000000000 := fun y hy => by
        have := (listOf_el x.data.toList y (by rw [← hE]; exact hy)).2.2.1
        rw [size_list] at this
        omega
      have hEV : E = listOf V[k] := by rw [hE, hel]
      have HE := Lib.hid hEV
      have HM := Lib.hid hmem
      obtain ⟨pE, cE, rfl, e1, e2, hinE, hpE⟩ := hownE.shape rfl
      have hst := tokIn_start hout hbE hinE (fun a ha => ⟨(hpE a ha).1, (hpE a ha).2.1⟩)
      have hEl : E.length ≤ 4000000001 := by have := listOf_length x.data.toList; rw [size_list, ← hE] at this; omega
      obtain ⟨A, hA⟩ : ∃ A, A = (V.take k).flatMap wordsOf := ⟨_, rfl⟩
      rw [← hA] at hst
      have hAl : ∀ j, (A ++ (E.take j).map fold).length ≤ (V.flatMap wordsOf).length := fun j => by rw [hA, hEV]; exact HL.out j
      have HA := Lib.hid hA
      have HAL := Lib.hid hAl
      unfold maxLen at e2
      clear hel hE hmem hEV hownE hinE hpE hown hout hA hAl g1
      go_wp2_with fail
      go_loopw [5, 21] (fun v i wj => ∃ j : Nat, TokIn w1.heap.size none w1 wE.heap.size pE E A v i wj j) (fun _ i _ => E.length - (intOf i).toNat)
      case atStart => exact ⟨0, hst⟩
      case round =>
        obtain ⟨j, hti⟩ := hrel
        have hti' := hti
        obtain ⟨hj, rfl, houtj, hinj, hblk, hsj⟩ := hti
        have hownj := houtj.own
        have hszj := houtj.2.1.size
        have HTI := Lib.hid hti'
        have hal := HAL.out j
        clear hti' hblk
        by_cases hjl : j < E.length
        · obtain ⟨b', o', rfl, y, g1, g2⟩ := hinj.at hjl
          have hys : y.size ≤ 4000000000 := by rw [← size_list, g2]; exact HM.out _ (List.getElem_mem hjl)
          have HY := Lib.hid g2
          clear g2 hinj
          go_wp2_with fail
          refine (tokFold_any y _ (by omega)).mono ?_
          rintro e wf ⟨rfl, hbf⟩
          have hsf := hbf.size
          obtain ⟨fy, hfy⟩ : ∃ f : ByteArray, f = ⟨(fold y.data.toList).toArray⟩ := ⟨_, rfl⟩
          have hfyd : fy.data.toList = fold E[j] := by rw [hfy, HY.out]
          rw [← hfy]
          have hin2 := InS.one wf fy
          have HFY := Lib.hid hfyd
          have hown3 := (hownj.below hbf).alloc (.cells #[.string fy] 9)
          clear hfy hfyd
          go_wp2_with (at_builtin; refine wpList_appendSw rfl _ _ rfl w1.heap.size _ _ rfl hown3 _ _ _ _ rfl rfl hin2 (by simp only [List.length_cons, List.length_nil]; omega) (by simp; omega) ?_; intro v4 w4 hown4 hgrow4 hway4)
          go_roundw
          case rel => exact ⟨j + 1, tokIn_step HTI.out hjl HFY.out hbf hown4 hgrow4 hway4 (by go_num)⟩
          case measure => simp [intOf]; omega
        · obtain rfl : j = E.length := by omega
          go_wp2_with fail
          go_roundw
          case rel =>
            refine ⟨k + 1, by omega, by go_num, ?_⟩
            rw [HF.out, ← HA.out]
            unfold wordsOf
            rw [← HE.out]
            simpa using houtj
          case measure => simp [intOf]; omega
    · obtain rfl : k = V.length := by omega
      go_wp2_with fail
      go_ret
      rw [List.take_length] at hout
      rw [← HVV.out]
      exact ⟨_, rfl, hout.own.mono hs1, hout.final hb1 (fun g e => by cases e)⟩
set_option maxHeartbeats 8000000 in
set_option maxRecDepth 100000 in
theorem refTokens_any (L : List Pair) (p : Option Addr) (n c : Nat) (hn : L.length = n) (hr : n ≤ 4000000000000) (nm : ByteArray) (hnm : nm.size ≤ 140737488351232) (hsz : ∀ x ∈ L, x.1.length ≤ 140737488351232 ∧ x.2.length ≤ 4000000000) (hT : (tokensOf L nm.data.toList).length ≤ 8000000000000) (w : World) (h : In2 w p L) :
    Calls Tryd.prog 28 #[.slice p n c, .string nm] w fun e w' => ∃ v, e = .returned v ∧ OwnS w' w.heap.size v (tokensOf L nm.data.toList) ∧ Below w.heap.size w w' := by
  subst hn
  have HV1 := Lib.hid (fun x hx => (hsz x hx).1)
  have HV2 := Lib.hid (show ∀ v ∈ valuesOf L nm.data.toList, v.length ≤ 4000000000 from fun v hv => by obtain ⟨x, hx, e⟩ := values_mem L nm.data.toList v hv; rw [← e]; exact (hsz x hx).2)
  have hvl := values_length L nm.data.toList
  have htk : tokensOf L nm.data.toList = (valuesOf L nm.data.toList).flatMap wordsOf := rfl
  rw [htk] at hT ⊢
  clear hsz htk
  go_enter Tryd.func28, Tryd.ntmps28
  go_wp2_with fail
  refine (refValues_any L p _ c rfl (by omega) nm hnm HV1.out _ (h.alloc (.cells #[] 9))).mono ?_
  rintro e w1 ⟨v1, rfl, hown1, hb1⟩
  have hs1 := hb1.size
  simp only [World.size_alloc] at hs1
  have hmade := (OwnS.made w).below hb1
  have hbA := ((Below.refl w.heap.size w).alloc (Nat.le_refl _) (.cells #[] 9)).trans (hb1.mono (by simp))
  obtain ⟨V, hV⟩ : ∃ V, V = valuesOf L nm.data.toList := ⟨_, rfl⟩
  rw [← hV] at hT hown1 hvl HV2
  have HVV := Lib.hid hV
  clear hV h
  obtain ⟨pv, cv, rfl, k1, k2, hinV, hpv⟩ := hown1.shape rfl
  have HNE := Lib.hid (show ∀ a, pv = some a → (some w.heap.size : Option Nat) ≠ some a.block from fun a ha e => by have := (hpv a ha).1; simp only [World.size_alloc] at this; injection e with e; omega)
  clear hpv
  unfold maxLen at k2
  clear hown1
  go_wp2_with fail
  go_loopw [5, 7] (fun v i wr => ∃ k : Nat, k ≤ V.length ∧ i = .int .i64 k ∧ OutS w.heap.size (some w.heap.size) w1 v ((V.take k).flatMap wordsOf) wr) (fun _ i _ => V.length - (intOf i).toNat)
  case atStart => exact ⟨0, by omega, rfl, OutV.start hmade⟩
  case round =>
    obtain ⟨k, hk, rfl, hout⟩ := hrel
    have hbs := hout.2.1.size
    have hown := hout.own
    by_cases hlt : k < V.length
    · obtain ⟨b, o, rfl, x, g1, g2⟩ := (hout.keepS hinV HNE.out).at hlt
      have hxs : x.size ≤ 4000000000 := by rw [← size_list, g2]; exact HV2.out _ (List.getElem_mem hlt)
      have HX := Lib.hid g2
      have HF := Lib.hid (flat_snoc V k hlt)
      have HL := Lib.hid (fun j => flat_len2 V k j hlt)
      clear g2
      go_wp2_with fail
      refine (refList_any x _ hxs).mono ?_
      rintro e wE ⟨vE, rfl, hownE, hbE⟩
      have hel := HX.out
      obtain ⟨E, hE⟩ : ∃ E, E = listOf x.data.toList := ⟨_, rfl⟩
      rw [← hE] at hownE
      have hmem : ∀ y ∈ E, y.length ≤ 4000000000 := fun y hy => by
        have := (listOf_el x.data.toList y (by rw [← hE]; exact hy)).2.2.1
        rw [size_list] at this
        omega
      have hEV : E = listOf V[k] := by rw [hE, hel]
      have HE := Lib.hid hEV
      have HM := Lib.hid hmem
      obtain ⟨pE, cE, rfl, e1, e2, hinE, hpE⟩ := hownE.shape rfl
      have hst := tokIn_start hout hbE hinE (fun a ha => ⟨(hpE a ha).1, (hpE a ha).2.1⟩)
      have hEl : E.length ≤ 4000000001 := by have := listOf_length x.data.toList; rw [size_list, ← hE] at this; omega
      obtain ⟨A, hA⟩ : ∃ A, A = (V.take k).flatMap wordsOf := ⟨_, rfl⟩
      rw [← hA] at hst
      have hAl : ∀ j, (A ++ (E.take j).map fold).length ≤ (V.flatMap wordsOf).length := fun j => by rw [hA, hEV]; exact HL.out j
      have HA := Lib.hid hA
      have HAL := Lib.hid hAl
      unfold maxLen at e2
      clear hel hE hmem hEV hownE hinE hpE hown hout hA hAl g1
      go_wp2_with fail
      go_loopw [5, 9] (fun v i wj => ∃ j : Nat, TokIn w.heap.size (some w.heap.size) w1 wE.heap.size pE E A v i wj j) (fun _ i _ => E.length - (intOf i).toNat)
      case atStart => exact ⟨0, hst⟩
      case round =>
        obtain ⟨j, hti⟩ := hrel
        have hti' := hti
        obtain ⟨hj, rfl, houtj, hinj, hblk, hsj⟩ := hti
        have hownj := houtj.own
        have hszj := houtj.2.1.size
        have HTI := Lib.hid hti'
        have hal := HAL.out j
        clear hti' hblk
        by_cases hjl : j < E.length
        · obtain ⟨b', o', rfl, y, g1, g2⟩ := hinj.at hjl
          have hys : y.size ≤ 4000000000 := by rw [← size_list, g2]; exact HM.out _ (List.getElem_mem hjl)
          have HY := Lib.hid g2
          clear g2 hinj
          go_wp2_with fail
          refine (lower_any y _ (by omega)).mono ?_
          rintro e wf ⟨rfl, hbf⟩
          have hsf := hbf.size
          obtain ⟨fy, hfy⟩ : ∃ f : ByteArray, f = ⟨(fold y.data.toList).toArray⟩ := ⟨_, rfl⟩
          have hfyd : fy.data.toList = fold E[j] := by rw [hfy, HY.out]
          rw [← hfy]
          have hin2 := InS.one wf fy
          have HFY := Lib.hid hfyd
          have hown3 := (hownj.below hbf).alloc (.cells #[.string fy] 9)
          clear hfy hfyd
          go_wp2_with (at_builtin; refine wpList_appendSw rfl _ _ rfl w.heap.size _ _ rfl hown3 _ _ _ _ rfl rfl hin2 (by simp only [List.length_cons, List.length_nil]; omega) (by simp; omega) ?_; intro v4 w4 hown4 hgrow4 hway4)
          go_roundw
          case rel => exact ⟨j + 1, tokIn_step HTI.out hjl HFY.out hbf hown4 hgrow4 hway4 (by go_num)⟩
          case measure => simp [intOf]; omega
        · obtain rfl : j = E.length := by omega
          go_wp2_with fail
          go_roundw
          case rel =>
            refine ⟨k + 1, by omega, by go_num, ?_⟩
            rw [HF.out, ← HA.out]
            unfold wordsOf
            rw [← HE.out]
            simpa using houtj
          case measure => simp [intOf]; omega
    · obtain rfl : k = V.length := by omega
      go_wp2_with fail
      go_ret
      rw [List.take_length] at hout
      rw [← HVV.out]
      exact ⟨_, rfl, hout.own, hout.final hbA (fun g e => by cases e; exact Nat.le_refl _)⟩
end Go.Proofs.YtnibecboimgljaaDoor
