/-
  FieldsMemory: what is answered is new memory, each time.
-/
import Derived.Test.YtpgjlepjhbjhfaaDoorLawPrints
import Derived.Test.YtpgjlepjhbjhfaaDoorLawParses
import Derived.Test.YtpgjlepjhbjhfaaDoorLawPuts
import Derived.Test.YtpgjlepjhbjhfaaDoorMarked
import Derived.Test.YtpgjlepjhbjhfaaDoorApartTwo
namespace Go.Proofs.YtpgjlepjhbjhfaaDoor
open Go.RowKit

theorem ownsRow_only {w w' : World} {A : Nat → Prop} {base : Nat} {e : TypeId} {size : Nat} {v : Value} {n : Nat} {xs : List Value} (h : w.ownsRow base e size v n xs) (hon : Only A w w') (hd : ∀ g, v.ownBlock = some g → ¬ A g) : w'.ownsRow base e size v n xs := by
  obtain ⟨h1, h2⟩ := h
  refine ⟨h1, ?_⟩
  rcases h2 with h2 | ⟨g, cap, cur, hv, hg, hh, r⟩
  · exact .inl h2
  · subst hv
    have hlt : g < w.heap.size := (Array.getElem?_eq_some_iff.1 hh).1
    exact .inr ⟨g, cap, cur, rfl, hg, (hon.block g hlt (hd g rfl)).trans hh, r⟩
theorem Own2.only {e : TypeId} {w w' : World} {A : Nat → Prop} {base : Nat} {v : Value} {L : List Pair} (h : Own2 e w base v L) (hon : Only A w w') (hd : ∀ g, v.ownBlock = some g → ¬ A g) : Own2 e w' base v L := ownsRow_only h hon hd
theorem Own8.only {w w' : World} {A : Nat → Prop} {base : Nat} {v : Value} {l : List UInt8} (h : Own8 w base v l) (hon : Only A w w') (hd : ∀ g, v.ownBlock = some g → ¬ A g) : Own8 w' base v l := ownsRow_only h hon hd
theorem Own2.in2 {e : TypeId} {w : World} {base n c : Nat} {p : Option Addr} {L : List Pair} (h : Own2 e w base (.slice p n c) L) : In2 w p L := by
  obtain ⟨p', c', e, _, _, hin, _⟩ := Own2.shape h rfl
  injection e with e1 _ _
  rw [e1]; exact hin
theorem Own8.in8' {w : World} {base n c : Nat} {p : Option Addr} {l : List UInt8} (h : Own8 w base (.slice p n c) l) : In8 w p l := by
  obtain ⟨p', c', e, _, _, hin⟩ := h.in8
  injection e with e1 _ _
  rw [e1]; exact hin
theorem In2.only {w w' : World} {A : Nat → Prop} {p : Option Addr} {L : List Pair} {B : Nat} (h : In2 w p L) (hlt : 0 < L.length → ∀ a, p = some a → a.block < B) (hon : Only A w w') (hA : ∀ k, A k → B ≤ k) : In2 w' p L := by
  intro h0
  obtain ⟨b, o, rfl, hc⟩ := h h0
  refine ⟨b, o, rfl, fun j v hv => ?_⟩
  exact hon.cell (hc j v hv) (fun ha => by have := hA _ ha; have := hlt h0 _ rfl; dsimp only at *; omega)

set_option maxHeartbeats 16000000 in
theorem fieldsMemory_walk (y : List UInt8) (q : Option Addr) (d : Nat) (L : List Pair) (p : Option Addr) (c : Nat) (s : ByteArray) (w : World) (hy : In8 w q y) (hyd : y.length ≤ d) (hdm : d ≤ maxLen) (hky : y.length ≤ 1048576) (hin : In2 w p L) (hk : bulkF L ≤ 1048576) (hs : s.data.toList.length ≤ 1048576) (hT : Tabs w) (hsh : w.ShapedOpen Tryd.prog) :
    Calls Tryd.prog 9 #[.slice q y.length d, .slice p L.length c, .string s] w fun e w' => e = .returned (.bool true) ∧ Below w.heap.size w w' := by
  have hM := MaxC.of hsh
  clear hsh
  rw [size_list] at hs
  have hll := bulkF_length L
  have hpl := printT_len L
  have HM := Lib.hid (fun x hx => by have := bulkF_mem L x hx; exact (⟨by omega, by omega⟩ : x.1.length ≤ 1048576 ∧ x.2.length ≤ 1048576))
  have HMN := Lib.hid (show ∀ x ∈ L, x.1.length ≤ 140737488351232 from fun x hx => by have := (HM.out x hx).1; omega)
  have HN1 := Lib.hid (show ∀ x ∈ [s.data.toList], x.length ≤ 140737488351232 by intro x hx; rw [List.mem_singleton.1 hx, size_list]; omega)
  have HL := Lib.hid (show (linesF L).length ≤ 1073741824 by have := linesF_bulk L; omega)
  obtain ⟨T, hTT⟩ : ∃ T, T = (printT L).1 := ⟨_, rfl⟩
  obtain ⟨E, hE⟩ : ∃ E, E = (printT L).2 := ⟨_, rfl⟩
  rw [← hTT] at hpl
  have HTT := Lib.hid hTT
  have HE := Lib.hid hE
  obtain ⟨A, hA⟩ : ∃ A, A = (parseT y).1 := ⟨_, rfl⟩
  obtain ⟨G, hG⟩ : ∃ G, G = (parseT y).2 := ⟨_, rfl⟩
  have hal : A.length ≤ 100 := by rw [hA]; exact parseA_len [] y (by simp)
  have HA := Lib.hid hA
  have HG := Lib.hid hG
  obtain ⟨K, hK⟩ : ∃ K, K = keptF [s.data.toList] L := ⟨_, rfl⟩
  have hkl : K.length ≤ L.length := by rw [hK]; exact keptF_length _ _
  obtain ⟨P, hP⟩ : ∃ P, P = putF s.data.toList (⟨#[118]⟩ : ByteArray).data.toList L := ⟨_, rfl⟩
  have hpl2 : P.length ≤ L.length + 1 := by rw [hP]; exact putF_length _ _ _
  have HK := Lib.hid hK
  have HP := Lib.hid hP
  have HLT := Lib.hid (show 0 < L.length → ∀ a, p = some a → a.block < w.heap.size by
    intro h0 a ha
    obtain ⟨b, o, rfl, hc⟩ := hin h0
    injection ha with ha
    rw [← ha]
    have hg := (pr_get L 0 h0).1
    exact World.block_lt_of_cell? w _ (hc _ _ hg))
  have HYD := Lib.hid hdm
  have hdn := hdm
  unfold maxLen at hdn
  clear hTT hE hA hG hK hP hdm
  go_enter Tryd.func9, Tryd.ntmps9
  go_wp2_with fail
  refine (alive4_any _ hM hT).mono ?_
  rintro e w1 ⟨rfl, hb1⟩
  have hB1 := hb1
  have hs1 := hB1.size

  go_wp2_with fail
  refine (copyFields_any L p _ c rfl (by omega) _ (hin.below hB1)).mono ?_
  rintro e w2 ⟨v2, rfl, hown2, hb2⟩
  have hB2 := hB1.trans (hb2.mono (by omega))
  have hs2 := hb2.size
  obtain ⟨p2, c2, rfl, _, _, _, _⟩ := Own2.shape hown2 rfl
  have HR2 := Lib.hid (show ∀ g, (Value.slice p2 L.length c2).ownBlock = some g → w1.heap.size ≤ g ∧ g < w2.heap.size from fun g e => World.ownsRow.lt hown2 g e)
  have hnil := own2_nil hown2
  go_wp2_with fail
  refine (without_any L p2 _ c2 rfl (by omega) hnil [s.data.toList] _ 1 1 rfl (by omega) _ HMN.out HN1.out (InS.one w2 s) ((Own2.in2 hown2).alloc _)).mono ?_
  rw [← HK.out]
  rintro e w3 ⟨v3, rfl, howx, hbx⟩
  have hb3 := ((Below.refl _ w2).alloc (Nat.le_refl _) (.cells #[.string s] 9)).trans (hbx.mono (by simp))
  have hown3 := howx.mono (show w2.heap.size ≤ _ by simp)
  clear howx hbx
  have hB3 := hB2.trans (hb3.mono (by omega))
  have hs3 := hb3.size
  obtain ⟨p3, c3, rfl, _, _, _, _⟩ := Own2.shape hown3 rfl
  have HR3 := Lib.hid (show ∀ g, (Value.slice p3 K.length c3).ownBlock = some g → w2.heap.size ≤ g ∧ g < w3.heap.size from fun g e => World.ownsRow.lt hown3 g e)
  go_wp2_with fail
  refine (without_any L p2 _ c2 rfl (by omega) hnil [s.data.toList] _ 1 1 rfl (by omega) _ HMN.out HN1.out (InS.one w3 s) ((Own2.in2 (hown2.below hb3)).alloc _)).mono ?_
  rw [← HK.out]
  rintro e w4 ⟨v4, rfl, howx, hbx⟩
  have hb4 := ((Below.refl _ w3).alloc (Nat.le_refl _) (.cells #[.string s] 9)).trans (hbx.mono (by simp))
  have hown4 := howx.mono (show w3.heap.size ≤ _ by simp)
  clear howx hbx
  have hB4 := hB3.trans (hb4.mono (by omega))
  have hs4 := hb4.size
  obtain ⟨p4, c4, rfl, _, _, _, _⟩ := Own2.shape hown4 rfl
  have HR4 := Lib.hid (show ∀ g, (Value.slice p4 K.length c4).ownBlock = some g → w3.heap.size ≤ g ∧ g < w4.heap.size from fun g e => World.ownsRow.lt hown4 g e)
  go_wp2_with fail
  refine (put_any L p2 _ c2 rfl (by omega) hnil s ⟨#[118]⟩ _ HMN.out (by omega) (Own2.in2 ((hown2.below hb3).below hb4))).mono ?_
  rw [← HP.out]
  rintro e w5 ⟨v5, rfl, hown5, hb5⟩
  have hB5 := hB4.trans (hb5.mono (by omega))
  have hs5 := hb5.size
  obtain ⟨p5, c5, rfl, _, _, _, _⟩ := Own2.shape hown5 rfl
  have HR5 := Lib.hid (show ∀ g, (Value.slice p5 P.length c5).ownBlock = some g → w4.heap.size ≤ g ∧ g < w5.heap.size from fun g e => World.ownsRow.lt hown5 g e)
  go_wp2_with fail
  refine (put_any L p2 _ c2 rfl (by omega) hnil s ⟨#[118]⟩ _ HMN.out (by omega) (Own2.in2 (((hown2.below hb3).below hb4).below hb5))).mono ?_
  rw [← HP.out]
  rintro e w6 ⟨v6, rfl, hown6, hb6⟩
  have hB6 := hB5.trans (hb6.mono (by omega))
  have hs6 := hb6.size
  obtain ⟨p6, c6, rfl, _, _, _, _⟩ := Own2.shape hown6 rfl
  have HR6 := Lib.hid (show ∀ g, (Value.slice p6 P.length c6).ownBlock = some g → w5.heap.size ≤ g ∧ g < w6.heap.size from fun g e => World.ownsRow.lt hown6 g e)
  go_wp2_with fail
  refine (parse_any y q _ d rfl hyd HYD.out (by omega) w6 (hM.below hB6) (Utf8Tabs_below hT hB6) (hy.below hB6)).mono ?_
  rw [← HA.out, ← HG.out]
  rintro e w7 ⟨v7, rfl, hown7, hb7⟩
  have hB7 := hB6.trans (hb7.mono (by omega))
  have hs7 := hb7.size
  obtain ⟨p7, c7, rfl, _, _, _, _⟩ := Own2.shape hown7 rfl
  have HR7 := Lib.hid (show ∀ g, (Value.slice p7 A.length c7).ownBlock = some g → w6.heap.size ≤ g ∧ g < w7.heap.size from fun g e => World.ownsRow.lt hown7 g e)
  go_wp2_with fail
  refine (parse_any y q _ d rfl hyd HYD.out (by omega) w7 (hM.below hB7) (Utf8Tabs_below hT hB7) (hy.below hB7)).mono ?_
  rw [← HA.out, ← HG.out]
  rintro e w8 ⟨v8, rfl, hown8, hb8⟩
  have hB8 := hB7.trans (hb8.mono (by omega))
  have hs8 := hb8.size
  obtain ⟨p8, c8, rfl, _, _, _, _⟩ := Own2.shape hown8 rfl
  have HR8 := Lib.hid (show ∀ g, (Value.slice p8 A.length c8).ownBlock = some g → w7.heap.size ≤ g ∧ g < w8.heap.size from fun g e => World.ownsRow.lt hown8 g e)
  go_wp2_with fail
  refine (print_any L p2 _ c2 rfl (by omega) _ (Own2.in2 ((((((hown2.below hb3).below hb4).below hb5).below hb6).below hb7).below hb8)) HM.out HL.out).mono ?_
  rw [← HTT.out, ← HE.out]
  rintro e w9 ⟨v9, rfl, hown9, hb9⟩
  have hB9 := hB8.trans (hb9.mono (by omega))
  have hs9 := hb9.size
  obtain ⟨p9, c9, rfl, _, _, _⟩ := hown9.in8n (n := T.length) rfl
  have HR9 := Lib.hid (show ∀ g, (Value.slice p9 T.length c9).ownBlock = some g → w8.heap.size ≤ g ∧ g < w9.heap.size from fun g e => World.ownsRow.lt hown9 g e)
  go_wp2_with fail
  refine (print_any L p2 _ c2 rfl (by omega) _ (Own2.in2 (((((((hown2.below hb3).below hb4).below hb5).below hb6).below hb7).below hb8).below hb9)) HM.out HL.out).mono ?_
  rw [← HTT.out, ← HE.out]
  rintro e w10 ⟨v10, rfl, hown10, hb10⟩
  have hB10 := hB9.trans (hb10.mono (by omega))
  have hs10 := hb10.size
  obtain ⟨p10, c10, rfl, _, _, _⟩ := hown10.in8n (n := T.length) rfl
  have HR10 := Lib.hid (show ∀ g, (Value.slice p10 T.length c10).ownBlock = some g → w9.heap.size ≤ g ∧ g < w10.heap.size from fun g e => World.ownsRow.lt hown10 g e)
  go_wp2_with fail
  refine (refWithout_any L p _ c rfl (by omega) [s.data.toList] _ 1 1 rfl (by omega) _ HMN.out HN1.out (InS.one w10 s) ((hin.below hB10).alloc _)).mono ?_
  rw [← HK.out]
  rintro e w11 ⟨v11, rfl, howx, hbx⟩
  have hb11 := ((Below.refl _ w10).alloc (Nat.le_refl _) (.cells #[.string s] 9)).trans (hbx.mono (by simp))
  have hown11 := howx.mono (show w10.heap.size ≤ _ by simp)
  clear howx hbx
  have hB11 := hB10.trans (hb11.mono (by omega))
  have hs11 := hb11.size
  obtain ⟨p11, c11, rfl, _, _, _, _⟩ := Own2.shape hown11 rfl
  have HR11 := Lib.hid (show ∀ g, (Value.slice p11 K.length c11).ownBlock = some g → w10.heap.size ≤ g ∧ g < w11.heap.size from fun g e => World.ownsRow.lt hown11 g e)
  go_wp2_with fail
  refine (refPut_any L p _ c rfl (by omega) s ⟨#[118]⟩ _ HMN.out (by omega) (hin.below hB11)).mono ?_
  rw [← HP.out]
  rintro e w12 ⟨v12, rfl, hown12, hb12⟩
  have hB12 := hB11.trans (hb12.mono (by omega))
  have hs12 := hb12.size
  obtain ⟨p12, c12, rfl, _, _, _, _⟩ := Own2.shape hown12 rfl
  have HR12 := Lib.hid (show ∀ g, (Value.slice p12 P.length c12).ownBlock = some g → w11.heap.size ≤ g ∧ g < w12.heap.size from fun g e => World.ownsRow.lt hown12 g e)
  go_wp2_with fail
  refine (refParse_any y q _ d rfl hyd (by omega) w12 (hy.below hB12)).mono ?_
  rw [← HA.out, ← HG.out]
  rintro e w13 ⟨v13, rfl, hown13, hb13⟩
  have hB13 := hB12.trans (hb13.mono (by omega))
  have hs13 := hb13.size
  obtain ⟨p13, c13, rfl, _, _, _, _⟩ := Own2.shape hown13 rfl
  have HR13 := Lib.hid (show ∀ g, (Value.slice p13 A.length c13).ownBlock = some g → w12.heap.size ≤ g ∧ g < w13.heap.size from fun g e => World.ownsRow.lt hown13 g e)
  go_wp2_with fail
  refine (refPrint_any L p _ c rfl (by omega) _ (hin.below hB13) HM.out HL.out).mono ?_
  rw [← HTT.out, ← HE.out]
  rintro e w14 ⟨v14, rfl, hown14, hb14⟩
  have hB14 := hB13.trans (hb14.mono (by omega))
  have hs14 := hb14.size
  obtain ⟨p14, c14, rfl, _, _, _⟩ := hown14.in8n (n := T.length) rfl
  have HR14 := Lib.hid (show ∀ g, (Value.slice p14 T.length c14).ownBlock = some g → w13.heap.size ≤ g ∧ g < w14.heap.size from fun g e => World.ownsRow.lt hown14 g e)
  go_wp2_with fail
  refine (sameFields_same K p3 p11 _ c3 _ c11 rfl rfl (by unfold maxLen; omega) _ (Own2.in2 (((((((((((hown3.below hb4).below hb5).below hb6).below hb7).below hb8).below hb9).below hb10).below hb11).below hb12).below hb13).below hb14)) (Own2.in2 (((hown11.below hb12).below hb13).below hb14))).mono ?_
  rintro e w15 ⟨rfl, hb15⟩
  have hB15 := hB14.trans (hb15.mono (by omega))
  have hs15 := hb15.size
  go_wp2_with fail
  refine (sameFields_same P p5 p12 _ c5 _ c12 rfl rfl (by unfold maxLen; omega) _ (Own2.in2 ((((((((((hown5.below hb6).below hb7).below hb8).below hb9).below hb10).below hb11).below hb12).below hb13).below hb14).below hb15)) (Own2.in2 (((hown12.below hb13).below hb14).below hb15))).mono ?_
  rintro e w16 ⟨rfl, hb16⟩
  have hB16 := hB15.trans (hb16.mono (by omega))
  have hs16 := hb16.size
  go_wp2_with fail
  refine (sameFields_same A p7 p13 _ c7 _ c13 rfl rfl (by unfold maxLen; omega) _ (Own2.in2 (((((((((hown7.below hb8).below hb9).below hb10).below hb11).below hb12).below hb13).below hb14).below hb15).below hb16)) (Own2.in2 (((hown13.below hb14).below hb15).below hb16))).mono ?_
  rintro e w17 ⟨rfl, hb17⟩
  have hB17 := hB16.trans (hb17.mono (by omega))
  have hs17 := hb17.size
  have hsb := sameBytes_any T T p9 p14 _ c9 _ c14 rfl rfl (by unfold maxLen; omega) (by unfold maxLen; omega) w17 (Own8.in8' ((((((((hown9.below hb10).below hb11).below hb12).below hb13).below hb14).below hb15).below hb16).below hb17)) (Own8.in8' (((hown14.below hb15).below hb16).below hb17))
  rw [decide_eq_true rfl] at hsb
  go_wp2_with fail
  refine hsb.mono ?_
  rintro e w18 ⟨rfl, hb18⟩
  clear hsb
  have hB18 := hB17.trans (hb18.mono (by omega))
  have hs18 := hb18.size
  have hsb := sameBytes_any T T p10 p14 _ c10 _ c14 rfl rfl (by unfold maxLen; omega) (by unfold maxLen; omega) w18 (Own8.in8' ((((((((hown10.below hb11).below hb12).below hb13).below hb14).below hb15).below hb16).below hb17).below hb18)) (Own8.in8' ((((hown14.below hb15).below hb16).below hb17).below hb18))
  rw [decide_eq_true rfl] at hsb
  go_wp2_with fail
  refine hsb.mono ?_
  rintro e w19 ⟨rfl, hb19⟩
  clear hsb
  have hB19 := hB18.trans (hb19.mono (by omega))
  have hs19 := hb19.size
  go_wp2_with fail
  refine (marked_any K _ w2.heap.size _ rfl (by omega) _ ((((((((((((((((hown3.below hb4).below hb5).below hb6).below hb7).below hb8).below hb9).below hb10).below hb11).below hb12).below hb13).below hb14).below hb15).below hb16).below hb17).below hb18).below hb19) (by omega)).mono ?_
  rintro e w20 ⟨rfl, hon20⟩
  have hB20 := hB19.trans (hon20.below (B := w.heap.size) (fun g e2 => by have h2 := HR3.out g e2; omega) (by omega))
  have hs20 := hon20.size
  go_wp2_with fail
  refine (marked_any P _ w4.heap.size _ rfl (by omega) _ (((((((((((((((hown5.below hb6).below hb7).below hb8).below hb9).below hb10).below hb11).below hb12).below hb13).below hb14).below hb15).below hb16).below hb17).below hb18).below hb19).only hon20 (fun g e1 e2 => by have h1 := HR5.out g e1; have h2 := HR3.out g e2; omega)) (by omega)).mono ?_
  rintro e w21 ⟨rfl, hon21⟩
  have hB21 := hB20.trans (hon21.below (B := w.heap.size) (fun g e2 => by have h2 := HR5.out g e2; omega) (by omega))
  have hs21 := hon21.size
  go_wp2_with fail
  refine (marked_any A _ w6.heap.size _ rfl (by omega) _ ((((((((((((((hown7.below hb8).below hb9).below hb10).below hb11).below hb12).below hb13).below hb14).below hb15).below hb16).below hb17).below hb18).below hb19).only hon20 (fun g e1 e2 => by have h1 := HR7.out g e1; have h2 := HR3.out g e2; omega)).only hon21 (fun g e1 e2 => by have h1 := HR7.out g e1; have h2 := HR5.out g e2; omega)) (by omega)).mono ?_
  rintro e w22 ⟨rfl, hon22⟩
  have hB22 := hB21.trans (hon22.below (B := w.heap.size) (fun g e2 => by have h2 := HR7.out g e2; omega) (by omega))
  have hs22 := hon22.size
  go_wp2_with fail
  have h9 := (((((((((((((hown9.below hb10).below hb11).below hb12).below hb13).below hb14).below hb15).below hb16).below hb17).below hb18).below hb19).only hon20 (fun g e1 e2 => by have h1 := HR9.out g e1; have h2 := HR3.out g e2; omega)).only hon21 (fun g e1 e2 => by have h1 := HR9.out g e1; have h2 := HR5.out g e2; omega)).only hon22 (fun g e1 e2 => by have h1 := HR9.out g e1; have h2 := HR7.out g e2; omega))
  have h10 := ((((((((((((hown10.below hb11).below hb12).below hb13).below hb14).below hb15).below hb16).below hb17).below hb18).below hb19).only hon20 (fun g e1 e2 => by have h1 := HR10.out g e1; have h2 := HR3.out g e2; omega)).only hon21 (fun g e1 e2 => by have h1 := HR10.out g e1; have h2 := HR5.out g e2; omega)).only hon22 (fun g e1 e2 => by have h1 := HR10.out g e1; have h2 := HR7.out g e2; omega))
  have hbz := (Below.refl _ w22).alloc (Nat.le_refl _) (.cells #[(Value.slice p9 T.length c9), (Value.slice p10 T.length c10)] 33)
  have ha := heap_alloc_new w22 (.cells #[(Value.slice p9 T.length c9), (Value.slice p10 T.length c10)] 33)
  refine (apart_two w22.heap.size w8.heap.size (Value.slice p9 T.length c9) (Value.slice p10 T.length c10) T T _ (h9.alloc _) ((h10.alloc _).mono (by omega)) (by rw [cell_of_row _ _ _ _ _ _ ha]; rfl) (by rw [cell_of_row _ _ _ _ _ _ ha]; rfl) (by
    cases h : (Value.slice p9 T.length c9).ownBlock with
    | none => exact .inl rfl
    | some g => exact .inr (fun e => by have h1 := HR9.out g h; have h2 := HR10.out g e.symm; omega)) (fun e => by have := HR9.out _ e; omega) (fun e => by have := HR10.out _ e; omega) (by omega) (by omega) (by simp; omega)).mono ?_
  rintro e w23 ⟨rfl, hon23'⟩
  have hon23 : Only (fun k => (Value.slice p9 T.length c9).ownBlock = some k ∨ (Value.slice p10 T.length c10).ownBlock = some k) w22 w23 := ⟨hon23'.os, hon23'.tape, hon23'.output, Nat.le_trans (by simp) hon23'.size, fun k hk hn => (hon23'.block k (by simp; omega) hn).trans (hbz.block k hk)⟩
  have hB23 := hB22.trans (hon23.below (B := w.heap.size) (fun g e2 => by rcases e2 with e2 | e2 <;> first | (have h2 := HR9.out g e2; omega) | (have h2 := HR10.out g e2; omega)) (by omega))
  have hs23 := hon23.size
  clear h9 h10 hbz ha hon23'
  go_wp2_with fail
  refine (sameFields_same K p4 p11 _ c4 _ c11 rfl rfl (by unfold maxLen; omega) _ (Own2.in2 (((((((((((((((((((hown4.below hb5).below hb6).below hb7).below hb8).below hb9).below hb10).below hb11).below hb12).below hb13).below hb14).below hb15).below hb16).below hb17).below hb18).below hb19).only hon20 (fun g e1 e2 => by have h1 := HR4.out g e1; have h2 := HR3.out g e2; omega)).only hon21 (fun g e1 e2 => by have h1 := HR4.out g e1; have h2 := HR5.out g e2; omega)).only hon22 (fun g e1 e2 => by have h1 := HR4.out g e1; have h2 := HR7.out g e2; omega)).only hon23 (fun g e1 e2 => by have h1 := HR4.out g e1; rcases e2 with e2 | e2 <;> first | (have h2 := HR9.out g e2; omega) | (have h2 := HR10.out g e2; omega)))) (Own2.in2 ((((((((((((hown11.below hb12).below hb13).below hb14).below hb15).below hb16).below hb17).below hb18).below hb19).only hon20 (fun g e1 e2 => by have h1 := HR11.out g e1; have h2 := HR3.out g e2; omega)).only hon21 (fun g e1 e2 => by have h1 := HR11.out g e1; have h2 := HR5.out g e2; omega)).only hon22 (fun g e1 e2 => by have h1 := HR11.out g e1; have h2 := HR7.out g e2; omega)).only hon23 (fun g e1 e2 => by have h1 := HR11.out g e1; rcases e2 with e2 | e2 <;> first | (have h2 := HR9.out g e2; omega) | (have h2 := HR10.out g e2; omega))))).mono ?_
  rintro e w24 ⟨rfl, hb24⟩
  have hB24 := hB23.trans (hb24.mono (by omega))
  have hs24 := hb24.size
  go_wp2_with fail
  refine (sameFields_same P p6 p12 _ c6 _ c12 rfl rfl (by unfold maxLen; omega) _ (Own2.in2 ((((((((((((((((((hown6.below hb7).below hb8).below hb9).below hb10).below hb11).below hb12).below hb13).below hb14).below hb15).below hb16).below hb17).below hb18).below hb19).only hon20 (fun g e1 e2 => by have h1 := HR6.out g e1; have h2 := HR3.out g e2; omega)).only hon21 (fun g e1 e2 => by have h1 := HR6.out g e1; have h2 := HR5.out g e2; omega)).only hon22 (fun g e1 e2 => by have h1 := HR6.out g e1; have h2 := HR7.out g e2; omega)).only hon23 (fun g e1 e2 => by have h1 := HR6.out g e1; rcases e2 with e2 | e2 <;> first | (have h2 := HR9.out g e2; omega) | (have h2 := HR10.out g e2; omega))).below hb24)) (Own2.in2 ((((((((((((hown12.below hb13).below hb14).below hb15).below hb16).below hb17).below hb18).below hb19).only hon20 (fun g e1 e2 => by have h1 := HR12.out g e1; have h2 := HR3.out g e2; omega)).only hon21 (fun g e1 e2 => by have h1 := HR12.out g e1; have h2 := HR5.out g e2; omega)).only hon22 (fun g e1 e2 => by have h1 := HR12.out g e1; have h2 := HR7.out g e2; omega)).only hon23 (fun g e1 e2 => by have h1 := HR12.out g e1; rcases e2 with e2 | e2 <;> first | (have h2 := HR9.out g e2; omega) | (have h2 := HR10.out g e2; omega))).below hb24))).mono ?_
  rintro e w25 ⟨rfl, hb25⟩
  have hB25 := hB24.trans (hb25.mono (by omega))
  have hs25 := hb25.size
  go_wp2_with fail
  refine (sameFields_same A p8 p13 _ c8 _ c13 rfl rfl (by unfold maxLen; omega) _ (Own2.in2 (((((((((((((((((hown8.below hb9).below hb10).below hb11).below hb12).below hb13).below hb14).below hb15).below hb16).below hb17).below hb18).below hb19).only hon20 (fun g e1 e2 => by have h1 := HR8.out g e1; have h2 := HR3.out g e2; omega)).only hon21 (fun g e1 e2 => by have h1 := HR8.out g e1; have h2 := HR5.out g e2; omega)).only hon22 (fun g e1 e2 => by have h1 := HR8.out g e1; have h2 := HR7.out g e2; omega)).only hon23 (fun g e1 e2 => by have h1 := HR8.out g e1; rcases e2 with e2 | e2 <;> first | (have h2 := HR9.out g e2; omega) | (have h2 := HR10.out g e2; omega))).below hb24).below hb25)) (Own2.in2 ((((((((((((hown13.below hb14).below hb15).below hb16).below hb17).below hb18).below hb19).only hon20 (fun g e1 e2 => by have h1 := HR13.out g e1; have h2 := HR3.out g e2; omega)).only hon21 (fun g e1 e2 => by have h1 := HR13.out g e1; have h2 := HR5.out g e2; omega)).only hon22 (fun g e1 e2 => by have h1 := HR13.out g e1; have h2 := HR7.out g e2; omega)).only hon23 (fun g e1 e2 => by have h1 := HR13.out g e1; rcases e2 with e2 | e2 <;> first | (have h2 := HR9.out g e2; omega) | (have h2 := HR10.out g e2; omega))).below hb24).below hb25))).mono ?_
  rintro e w26 ⟨rfl, hb26⟩
  have hB26 := hB25.trans (hb26.mono (by omega))
  have hs26 := hb26.size
  go_wp2_with fail
  refine (sameFields_same L p2 p _ c2 _ c rfl rfl (by unfold maxLen; omega) _ (Own2.in2 ((((((((((((((((((((((((hown2.below hb3).below hb4).below hb5).below hb6).below hb7).below hb8).below hb9).below hb10).below hb11).below hb12).below hb13).below hb14).below hb15).below hb16).below hb17).below hb18).below hb19).only hon20 (fun g e1 e2 => by have h1 := HR2.out g e1; have h2 := HR3.out g e2; omega)).only hon21 (fun g e1 e2 => by have h1 := HR2.out g e1; have h2 := HR5.out g e2; omega)).only hon22 (fun g e1 e2 => by have h1 := HR2.out g e1; have h2 := HR7.out g e2; omega)).only hon23 (fun g e1 e2 => by have h1 := HR2.out g e1; rcases e2 with e2 | e2 <;> first | (have h2 := HR9.out g e2; omega) | (have h2 := HR10.out g e2; omega))).below hb24).below hb25).below hb26)) ((((((((hin.below hB19).only HLT.out hon20 (fun g e2 => by have h2 := HR3.out g e2; omega)).only HLT.out hon21 (fun g e2 => by have h2 := HR5.out g e2; omega)).only HLT.out hon22 (fun g e2 => by have h2 := HR7.out g e2; omega)).only HLT.out hon23 (fun g e2 => by rcases e2 with e2 | e2 <;> first | (have h2 := HR9.out g e2; omega) | (have h2 := HR10.out g e2; omega))).below hb24).below hb25).below hb26)).mono ?_
  rintro e w27 ⟨rfl, hb27⟩
  go_wp2_with fail
  go_ret
  exact ⟨rfl, hB26.trans (hb27.mono (by omega))⟩
end Go.Proofs.YtpgjlepjhbjhfaaDoor
