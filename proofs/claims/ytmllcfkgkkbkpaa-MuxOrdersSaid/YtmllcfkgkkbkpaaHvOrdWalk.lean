/-
  MuxOrders: its two lone pieces.
-/
import Derived.Test.YtmllcfkgkkbkpaaPk2
import Derived.Test.YtmllcfkgkkbkpaaPk0
import Derived.Deep.QuietTactic
namespace Go.Proofs.Ytmllcfkgkkbkpaa
open Go.RowKit
noncomputable def bodyOr : Code := (Try.f6.body).getD .skip
noncomputable def pieceOr : Code := match bodyOr with
  | .seq _ (.seq _ (.seq _ (.seq _ (.seq _ (.seq x _))))) => x
  | _ => .skip
noncomputable def tailOr : Code := match bodyOr with
  | .seq _ (.seq _ (.seq _ (.seq _ (.seq _ (.seq _ (.seq _ x)))))) => x
  | _ => .skip
/-- What the first piece leaves. -/
def OrR (p : Option Addr) (n c : Nat) (x1 : Value) (sizes : List Int) (base : Nat) (w : World) (a' : Act) (w' : World) : Prop :=
  ∃ T v5, a' = ⟨T, []⟩ ∧ T.size = 111 ∧ T[0]? = some (.slice p n c) ∧ T[1]? = some x1 ∧ T[5]? = some v5 ∧ T[6]? = some (.int .i64 (total (ordL sizes) : Nat)) ∧ OwnLs w' base v5 (ordL sizes) ∧ Below base w w'
set_option maxRecDepth 100000 in
set_option maxHeartbeats 8000000 in
theorem orders_piece {p : Option Addr} {sizes : List Int} {n c g base : Nat} {x1 x18 x19 : Value} (w : World) (hin : InI w p sizes) (hn : sizes.length = n) (hs : n ≤ 50) (hlo : ∀ a, p = some a → 0 < n → a.block < base) (hown : OwnLs w base (.slice (some ⟨g, 0, none⟩) 0 0) []) (hbase : base ≤ w.heap.size) :
    pieceOr.wp Try.prog (fun e a' w' => e = .normal ∧ OrR p n c x1 sizes base w a' w') ⟨#[.slice p n c, x1, undef, undef, .bool false, .slice (some ⟨g, 0, none⟩) 0 0, .int .i64 0, undef, undef, undef, undef, undef, undef, undef, undef, undef, .bool true, .bool false, x18, x19, .bool false, .slice (some ⟨g, 0, none⟩) 0 0, undef, undef, undef, undef, undef, undef, undef, undef, undef, undef, undef, undef, undef, undef, undef, undef, undef, undef, undef, undef, undef, undef, undef, undef, undef, undef, undef, undef, undef, undef, undef, undef, undef, undef, undef, undef, undef, undef, undef, undef, undef, undef, undef, undef, undef, undef, undef, undef, undef, undef, undef, undef, undef, undef, undef, undef, undef, undef, undef, undef, undef, undef, undef, undef, undef, undef, undef, undef, undef, undef, undef, undef, undef, undef, undef, undef, undef, undef, undef, undef, undef, undef, undef, undef, undef, undef, undef, undef, undef], []⟩ w := by
  have HN := Lib.hid hn
  clear hn
  simp only [pieceOr, bodyOr, Try.f6, Option.getD_some]
  go_wp2
  go_loopw [5, 6, 7] (fun v s i wr => ∃ k : Nat, k ≤ n ∧ i = .int .i64 k ∧ s = .int .i64 (total ((ordL sizes).take k) : Nat) ∧ OwnLs wr base v ((ordL sizes).take k) ∧ Below base w wr ∧ base ≤ wr.heap.size) (fun _ _ i _ => n - (intOf i).toNat)
  case atStart => exact ⟨0, Nat.zero_le _, rfl, rfl, hown, Below.refl _ _, hbase⟩
  case round =>
    obtain ⟨k, hk, rfl, rfl, hown, hb, hbs⟩ := hrel
    by_cases hlt : k < n
    · have hkL : k < sizes.length := by rw [HN.out]; exact hlt
      have hinr : InI wr p sizes := InV.keep hin fun a e h0 => hb.block _ (hlo a e (by omega))
      obtain ⟨b, o, rfl, hc⟩ := hinr.at hkL
      have hgd : sizes.getD k 0 = sizes[k] := by rw [List.getD_eq_getElem?_getD, List.getElem?_eq_getElem hkL]; rfl
      have HT := Lib.hid (total_ord sizes k hkL)
      have HTL := Lib.hid (takesL (ordL sizes) k (by rw [ordL_len]; exact hkL))
      have HR := Lib.hid (show (ordL sizes)[k]'(by rw [ordL_len]; exact hkL) = ordRow k (cnt15 (sizes.getD k 0)) from by
        have := ordL_get hkL
        rw [List.getElem?_eq_getElem (by rw [ordL_len]; exact hkL)] at this
        exact Option.some.inj this)
      rw [HR.out] at HTL
      have hle := total_ord_le sizes k (by omega)
      have htl : ((ordL sizes).take k).length ≤ k := by rw [List.length_take]; omega
      rw [hgd] at HT HTL
      obtain ⟨hbit, hm15⟩ := and15 sizes[k]
      generalize cnt15 sizes[k] = m at HT HTL hbit hm15
      generalize sizes[k] = x at hc hbit
      clear hgd HR hinr
      have HOW := Lib.hid hown
      have HB := Lib.hid hb
      obtain ⟨s, hs0⟩ : ∃ s, s = total ((ordL sizes).take k) := ⟨_, rfl⟩
      rw [← hs0] at hle HT ⊢
      clear hs0 hown hb
      go_wp2
      obtain ⟨wo, hwo⟩ : ∃ x, x = wr := ⟨_, rfl⟩
      subst hwo
      have hmade := OwnI.made wo
      go_loopw [9, 10] (fun u j wi => ∃ c : Nat, c ≤ m ∧ j = .int .i64 c ∧ OwnI wi wo.heap.size u (ordRow k c) ∧ Below wo.heap.size wo wi) (fun _ j _ => m - (intOf j).toNat)
      case atStart => exact ⟨0, Nat.zero_le _, rfl, hmade, (Below.refl _ wo).alloc (Nat.le_refl _) _⟩
      case round =>
        obtain ⟨j, hj, rfl, hu, hbi⟩ := hrel
        have hbsi := hbi.size
        by_cases hjm : j < m
        · have hin1 := InI.one wr (100 * (k : Int) + (j : Int))
          have hu1 := hu.alloc (.cells #[.int .i64 (100 * (k : Int) + (j : Int))] 3)
          have hul := ordRow_len k j
          have HSU := Lib.hid (ordRow_succ k j)
          go_wp2_with (at_builtin; refine wpList_appendI rfl _ _ rfl wo.heap.size _ _ rfl hu1 _ _ _ _ rfl rfl hin1 (by rw [hul]; simp; omega) (by simp; omega) ?_; intro u2 w2 hu2 hgrow2 _)
          go_roundw
          case rel => exact ⟨j + 1, by omega, by go_num, by rw [HSU.out]; exact hu2, ownI_grown (hbi.alloc hbsi _) (by simp; omega) hu1 hgrow2⟩
          case measure => simp [intOf]; omega
        · obtain rfl : j = m := by omega
          obtain ⟨q9, c9, rfl, _, _, _, _⟩ := hu.shape (ordRow_len k j)
          have HU := Lib.hid hu
          have HBI := Lib.hid hbi
          have hb3 := HB.out.trans (hbi.mono hbs)
          have hown3 := (HOW.out.below hbi).alloc (.cells #[.slice q9 j c9] 23)
          clear hu hbi
          go_wp2_with (at_builtin; refine wpList_appendL rfl _ _ rfl base _ ((ordL sizes).take k) rfl hown3 _ _ (.slice q9 j c9) (ordRow k j) rfl (InV.oneV wr _ _) ((HU.out.mono hbs).alloc _) (by omega) (by simp; omega) ?_; intro v5 w5 hown5 hgrow5)
          go_roundw
          case rel => exact ⟨k + 1, by omega, by go_num, by rw [HT.out]; go_num, by rw [HTL.out]; exact hown5, ownLs_grown (hb3.alloc (by omega) _) (by simp; omega) hown3 hgrow5, by have := hgrow5.size; simp only [World.size_alloc] at this; omega⟩
          case measure => simp [intOf]; omega
    · obtain rfl : k = n := by omega
      have hL : (ordL sizes).take k = ordL sizes := List.take_of_length_le (by rw [ordL_len, HN.out]; exact Nat.le_refl _)
      rw [hL] at hown ⊢
      go_wp2
      exact ⟨_, _, rfl, rfl, rfl, rfl, rfl, rfl, hown, hb⟩
theorem owns_blockI {w : World} {base : Nat} {v : Value} {l : List Int} (h : OwnI w base v l) (hn : 0 < l.length) : ∃ g cap, v = .slice (some ⟨g, 0, none⟩) l.length cap ∧ base ≤ g ∧ g < w.heap.size := by
  rcases h.2 with ⟨_, h0⟩ | ⟨g, cap, cur, rfl, hb, hg, _⟩
  · omega
  · exact ⟨g, cap, rfl, hb, (Array.getElem?_eq_some_iff.1 hg).1⟩
theorem ownI_stored {w : World} {base g cap : Nat} {l : List Int} {n : Nat} (hn : l.length = n) (h : OwnI w base (.slice (some ⟨g, 0, none⟩) n cap) l) (i : Nat) (x : Int) : OwnI (w.setCell ⟨g, i, none⟩ (.int .i64 x)) base (.slice (some ⟨g, 0, none⟩) n cap) (l.set i x) ∧ (∀ y, y ≠ g → (w.setCell ⟨g, i, none⟩ (.int .i64 x)).heap[y]? = w.heap[y]?) ∧ w.frozen? ⟨g, i, none⟩ = false := by
  subst hn
  have := World.ownsRow.stored h i (.int .i64 x)
  refine ⟨?_, fun y hy => heap_setCell_other w ⟨g, i, none⟩ y _ hy, World.ownsRow.frozenAt h i⟩
  unfold OwnI
  rw [List.length_set, show iv (l.set i x) = (iv l).set i (.int .i64 x) by simp [iv, List.map_set]]
  exact this.1
set_option maxRecDepth 100000 in
set_option maxHeartbeats 8000000 in
theorem orders_tail {p q : Option Addr} {n cc m cg : Nat} {G : List Int} {v1 v2 v3 v4 v5 v7 v8 v9 v10 v12 v13 v14 v15 v16 v17 v18 v19 v20 v21 v22 v23 v24 v25 v26 v27 v28 v29 v30 v31 v32 v33 v34 v35 v36 v37 v38 v39 v40 v41 v42 v43 v44 v45 v46 v47 v48 v49 v50 v51 v52 v53 v54 v55 v56 v57 v58 v59 v60 v61 v62 v63 v64 v65 v66 v67 v68 v69 v70 v71 v72 v73 v74 v75 v76 v77 v78 v79 v80 v81 v82 v83 v84 v85 v86 v87 v88 v89 v90 v91 v92 v93 v94 v95 v96 v97 v98 v99 v100 v101 v102 v103 v104 v105 v106 v107 v108 v109 v110 : Value} (w : World) (hin : InI w q G) (hm : G.length = m) (hs : n ≤ 50) (hms : m ≤ 1000000)
    (hlaw : ∀ (t : Nat) (v : Int), G[t]? = some v → ∃ i c : Nat, i < n ∧ c < 15 ∧ v = 100 * (i : Int) + c ∧ c = cntI (G.take t) i) :
    tailOr.wp Try.prog (fun e a' w' => ∃ r, e = exitOf r ∧ r = true ∧ a'.tmps.getD 4 undef = .bool true ∧ a'.defers = [] ∧ Below w.heap.size w w') ⟨#[.slice p n cc, v1, v2, v3, v4, v5, .int .i64 (m : Nat), v7, v8, v9, v10, .slice q m cg, v12, v13, v14, v15, v16, v17, v18, v19, v20, v21, v22, v23, v24, v25, v26, v27, v28, v29, v30, v31, v32, v33, v34, v35, v36, v37, v38, v39, v40, v41, v42, v43, v44, v45, v46, v47, v48, v49, v50, v51, v52, v53, v54, v55, v56, v57, v58, v59, v60, v61, v62, v63, v64, v65, v66, v67, v68, v69, v70, v71, v72, v73, v74, v75, v76, v77, v78, v79, v80, v81, v82, v83, v84, v85, v86, v87, v88, v89, v90, v91, v92, v93, v94, v95, v96, v97, v98, v99, v100, v101, v102, v103, v104, v105, v106, v107, v108, v109, v110], []⟩ w := by
  have HM := Lib.hid hm
  have HL := Lib.hid hlaw
  clear hm hlaw
  have hmade := OwnI.made w
  simp only [tailOr, bodyOr, Try.f6, Option.getD_some]
  go_wp2
  go_loopw [12, 13] (fun v i wr => ∃ k : Nat, k ≤ n ∧ i = .int .i64 k ∧ OwnI wr w.heap.size v (List.replicate k 0) ∧ Below w.heap.size w wr) (fun _ i _ => n - (intOf i).toNat)
  case atStart => exact ⟨0, Nat.zero_le _, rfl, hmade, (Below.refl _ w).alloc (Nat.le_refl _) _⟩
  case round =>
    obtain ⟨k, hk, rfl, hown, hb⟩ := hrel
    have hbs := hb.size
    by_cases hlt : k < n
    · have hin1 := InI.one wr 0
      have hown1 := hown.alloc (.cells #[.int .i64 0] 3)
      have HREP := Lib.hid (show List.replicate k (0 : Int) ++ [0] = List.replicate (k + 1) 0 by rw [List.replicate_succ'])
      go_wp2_with (at_builtin; refine wpList_appendI rfl _ _ rfl w.heap.size _ _ rfl hown1 _ _ _ _ rfl rfl hin1 (by simp; omega) (by simp; omega) ?_; intro u2 w2 hu2 hgrow2 _)
      go_roundw
      case rel => exact ⟨k + 1, by omega, by go_num, by rw [← HREP.out]; exact hu2, ownI_grown (hb.alloc hbs _) (by simp; omega) hown1 hgrow2⟩
      case measure => simp [intOf]; omega
    · obtain rfl : k = n := by omega
      obtain ⟨p12, c12, rfl, _, _, _, hp12⟩ := hown.shape (n := k) (by simp)
      rw [← nxt_zero (G := G)] at hown
      go_wp2
      obtain ⟨wo, hwo⟩ : ∃ x, x = wr := ⟨_, rfl⟩
      subst hwo
      have hint := hin.below hb
      clear hmade hp12
      go_loopw [14] (fun i wr => ∃ t : Nat, t ≤ m ∧ i = .int .i64 t ∧ OwnI wr w.heap.size (.slice p12 k c12) (nxt k G t) ∧ Below w.heap.size w wr) (fun i _ => m - (intOf i).toNat)
      case atStart => exact ⟨0, Nat.zero_le _, rfl, hown, hb⟩
      case round =>
        obtain ⟨t, ht, rfl, hown2, hb2⟩ := hrel
        clear hown hb hint
        have hbs2 := hb2.size
        by_cases htm : t < m
        · have htG : t < G.length := by rw [HM.out]; exact htm
          obtain ⟨i, c, hi, hc15, hv, hcnt⟩ := HL.out t G[t] (List.getElem?_eq_getElem htG)
          obtain ⟨b, o, rfl, hc⟩ := (hin.below hb2).at htG
          have HS := Lib.hid (nxt_succ (N := k) htG hv hc15)
          rw [← hcnt] at HS
          obtain ⟨g12, cap12, e12, hg12, _⟩ := owns_blockI hown2 (by rw [nxt_len]; omega)
          simp only [nxt_len, Value.slice.injEq, true_and] at e12
          obtain ⟨rfl, rfl⟩ := e12
          have hcn : wr.cell? ⟨g12, i, none⟩ = some (.int .i64 c) := by
            have h1 := hown2
            unfold OwnI at h1
            rw [nxt_len] at h1
            rw [World.ownsRow.cellAt h1 i (by omega)]
            unfold iv
            rw [List.getElem?_map, nxt_get hi, ← hcnt]
            rfl
          obtain ⟨hst, _, hfz⟩ := ownI_stored (n := k) nxt_len hown2 i ((c : Int) + 1)
          have hbst : Below w.heap.size w (wr.setCell ⟨g12, i, none⟩ (.int .i64 ((c : Int) + 1))) := hb2.setCell (by show w.heap.size ≤ g12; omega) _
          have HST := Lib.hid hst
          have HBST := Lib.hid hbst
          generalize G[t] = x at hc hv HS
          have hq : Int.tdiv x 100 = (i : Int) := by rw [hv, Int.tdiv_eq_ediv_of_nonneg (by omega)]; omega
          have hr : Int.tmod x 100 = (c : Int) := by rw [hv, Int.tmod_eq_emod_of_nonneg (by omega)]; omega
          have hx0 : decide (x < 0) = false := by simp; omega
          have hge : decide ((i : Int) ≥ (k : Int)) = false := by simp; omega
          have hne : ((c : Int) != (c : Int)) = false := by simp
          have HV := Lib.hid (And.intro hv hcnt)
          clear hv hcnt hst hbst hown2 hb2
          go_wp2_with fail
          go_quiet (fail)
          go_wp2
          go_roundw
          case rel => exact ⟨t + 1, by omega, by go_num, by rw [HS.out]; exact HST.out.drewN _, bdrewN HBST.out _⟩
          case measure => simp [intOf]; omega
        · obtain rfl : t = m := by omega
          go_wp2
          rfl
end Go.Proofs.Ytmllcfkgkkbkpaa
