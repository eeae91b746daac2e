/-
  Without, Put: the program's and the document's.
-/
import Derived.Test.YtpgjlepjhbjhfaaDoorDel2
import Derived.Deep.RegionHeld3
namespace Go.Proofs.YtpgjlepjhbjhfaaDoor
open Go.RowKit

set_option maxHeartbeats 2000000 in
theorem delete_own (L : List Pair) (base : Nat) (v : Value) (hmr : L.length ≤ 4400000000000)
    (N : List (List UInt8)) (p : Option Addr) (n c : Nat) (hn : N.length = n) (hr : n ≤ 8800000000000) (bn : Nat) (w : World) (hown : OwnF w base v L) (hbs : base ≤ w.heap.size)
    (hL : ∀ x ∈ L, x.1.length ≤ 140737488351232) (hN : ∀ x ∈ N, x.length ≤ 140737488351232)
    (h0 : w.cell? ⟨bn, 0, none⟩ = some (.slice p n c)) (h : InS w p N) (hbn : bn < base) (hpg : 0 < N.length → ∀ a, p = some a → a.block < base) :
    Calls Tryd.prog 43 #[v, .func (.func 45) #[] #[.pointer (some ⟨bn, 0, none⟩)]] w fun e w' => ∃ v, e = .returned v ∧ OwnF w' base v (keptF N L) ∧ Below base w w' := by
  obtain ⟨p2, c2, _, _, _, hin, _⟩ := Own2.shape hown rfl
  rcases hown.2 with ⟨rfl, hl⟩ | ⟨g, cap, cur, rfl, hbg, hg, hnc, hcm, hcs, ht⟩
  · obtain rfl : L = [] := List.length_eq_zero_iff.1 hl
    have hcall := indexF_any [] none 0 0 rfl (by omega) N p n c hn hr bn w hL hN h0 h (fun h0 => absurd h0 (by simp))
    rw [show outI N [] = -1 from rfl] at hcall
    go_enter Tryd.func43, Tryd.ntmps43
    go_wp2_with fail
    refine hcall.mono ?_
    rintro e w1 ⟨rfl, hb1⟩
    go_wp2_with fail
    go_ret
    exact ⟨_, rfl, Own2.nil _ _ _, hb1.mono hbs⟩
  · rename_i e1
    have hin2 : In2 w (some ⟨g, 0, none⟩) L := by
      injection e1 with e1
      rw [e1]; exact hin
    refine (delete_any L g cap cur L.length rfl hmr hnc hcm hcs ht N p n c hn hr bn w hg hL hN h0 h hin2 (by omega) (fun hp a ha => Nat.lt_of_lt_of_le (hpg hp a ha) hbg)).mono ?_
    rintro e w1 ⟨v, rfl, hown1, hb1⟩
    exact ⟨v, rfl, hown1.mono hbg, hb1.mono hbg⟩

set_option maxHeartbeats 4000000 in
theorem without_any (L : List Pair) (q : Option Addr) (m d : Nat) (hm : L.length = m) (hmr : m ≤ 4400000000000) (hqn : q = none → m = 0 ∧ d = 0)
    (N : List (List UInt8)) (p : Option Addr) (n c : Nat) (hn : N.length = n) (hr : n ≤ 8800000000000) (w : World)
    (hL : ∀ x ∈ L, x.1.length ≤ 140737488351232) (hN : ∀ x ∈ N, x.length ≤ 140737488351232) (h : InS w p N) (h2 : In2 w q L) :
    Calls Tryd.prog 27 #[.slice q m d, .slice p n c] w fun e w' => ∃ v, e = .returned v ∧ OwnF w' w.heap.size v (keptF N L) ∧ Below w.heap.size w w' := by
  subst hm
  have hb0 := (Below.refl w.heap.size w).alloc (Nat.le_refl _) (.cells #[.slice p n c] 29)
  have g0 : (w.alloc (.cells #[.slice p n c] 29)).cell? ⟨w.heap.size, 0, none⟩ = some (.slice p n c) := by rw [cell_of_row _ _ _ _ _ _ (heap_alloc_new w _)]; rfl
  have hs0 : (w.alloc (.cells #[.slice p n c] 29)).heap.size = w.heap.size + 1 := by simp
  have h2' := h2.alloc (.cells #[.slice p n c] 29)
  have hp' := h.alloc (.cells #[.slice p n c] 29)
  go_enter Tryd.func27, Tryd.ntmps27
  go_wp2_with fail
  refine (clone_any L q _ d rfl hmr _ h2' hqn).mono ?_
  rintro e w1 ⟨v1, rfl, hown1, hb1⟩
  rw [hs0] at hown1
  have hb1' := hb1.mono (show w.heap.size + 1 ≤ _ by rw [hs0]; omega)
  have hs1 := hb1.size
  rw [hs0] at hs1
  have g1 := (hb1.cell (p := ⟨w.heap.size, 0, none⟩) (by rw [hs0]; exact Nat.lt_succ_self _)).trans g0
  have hp1 := hp'.below hb1
  have hpg : 0 < N.length → ∀ a, p = some a → a.block < w.heap.size + 1 := by
    intro h0 a ha
    obtain ⟨b, o, e, hc⟩ := h (by rw [tx_length]; exact h0)
    rw [ha] at e
    have e := Option.some.inj e
    have := World.block_lt_of_cell? w _ (hc 0 (by rw [tx_length]; exact h0))
    rw [e]
    exact Nat.lt_succ_of_lt this
  have hcall := delete_own L (w.heap.size + 1) v1 hmr N p n c hn hr w.heap.size w1 hown1 hs1 hL hN g1 hp1 (Nat.lt_succ_self _) hpg
  clear hL hN h h2 h2' hp' hp1 hpg g0 g1
  go_wp2_with fail
  refine hcall.mono ?_
  rintro e w2 ⟨v2, rfl, hown2, hb2⟩
  go_wp2_with fail
  go_ret
  exact ⟨v2, rfl, hown2.mono (by omega), (hb0.trans (hb1.mono (by rw [hs0]; omega))).trans (hb2.mono (by omega))⟩

/-- the fields with one value for a name -/
def putF (n v : List UInt8) (L : List Pair) : List Pair := keptF [n] L ++ [(n, v)]
theorem keptF_length (N : List (List UInt8)) (L : List Pair) : (keptF N L).length ≤ L.length := List.length_filter_le _ _

set_option maxHeartbeats 4000000 in
theorem put_any (L : List Pair) (q : Option Addr) (m d : Nat) (hm : L.length = m) (hmr : m ≤ 4400000000000) (hqn : q = none → m = 0 ∧ d = 0)
    (a b : ByteArray) (w : World) (hL : ∀ x ∈ L, x.1.length ≤ 140737488351232) (ha : a.size ≤ 140737488351232) (h2 : In2 w q L) :
    Calls Tryd.prog 25 #[.slice q m d, .string a, .string b] w fun e w' => ∃ v, e = .returned v ∧ OwnF w' w.heap.size v (putF a.data.toList b.data.toList L) ∧ Below w.heap.size w w' := by
  subst hm
  have hkl := keptF_length [a.data.toList] L
  have hb0 := (Below.refl w.heap.size w).alloc (Nat.le_refl _) (.cells #[.string a] 9)
  have hs0 : (w.alloc (.cells #[.string a] 9)).heap.size = w.heap.size + 1 := by simp
  have hcall := without_any L q _ d rfl hmr hqn [a.data.toList] _ 1 1 rfl (by omega) (w.alloc (.cells #[.string a] 9)) hL (by intro x hx; rw [List.mem_singleton.1 hx, size_list]; exact ha) (InS.one w a) (h2.alloc _)
  clear hL h2
  go_enter Tryd.func25, Tryd.ntmps25
  go_wp2_with fail
  refine hcall.mono ?_
  rintro e w1 ⟨v1, rfl, hown1, hb1⟩
  rw [hs0] at hown1
  have hs1 := hb1.size
  rw [hs0] at hs1
  have hin := In2.one w1 a b 26
  have hown2 := hown1.alloc (.cells #[.string a, .string b] 26)
  have hb1' := hb1.mono (show w.heap.size ≤ _ by rw [hs0]; omega)
  go_wp2_with (at_builtin; refine wpList_append2 parF rfl _ _ rfl (w.heap.size + 1) _ _ rfl hown2 _ 1 _ _ rfl rfl hin (by omega) (by simp; omega) ?_; intro v4 w4 hown4 hgrow4 _)
  go_ret
  exact ⟨v4, rfl, hown4.mono (by omega), Own2.grown ((hb0.trans hb1').alloc (by omega) _) (by simp; omega) (hown2.mono (by omega)) hgrow4⟩

theorem among_snoc (a : List UInt8) (N : List (List UInt8)) (k : Nat) (h : k < N.length) : amongT a (N.take (k + 1)) = (amongT a (N.take k) || decide (fold a = fold N[k])) := by
  unfold amongT
  rw [List.take_succ_eq_append_getElem h, List.any_append]
  simp

set_option maxHeartbeats 4000000 in
theorem refWithout_any (L : List Pair) (q : Option Addr) (m d : Nat) (hm : L.length = m) (hmr : m ≤ 4400000000000)
    (N : List (List UInt8)) (p : Option Addr) (n c : Nat) (hn : N.length = n) (hr : n ≤ 8800000000000) (w : World)
    (hL : ∀ x ∈ L, x.1.length ≤ 140737488351232) (hN : ∀ x ∈ N, x.length ≤ 140737488351232) (h : InS w p N) (h2 : In2 w q L) :
    Calls Tryd.prog 30 #[.slice q m d, .slice p n c] w fun e w' => ∃ v, e = .returned v ∧ OwnF w' w.heap.size v (keptF N L) ∧ Below w.heap.size w w' := by
  subst hm
  subst hn
  have HL := Lib.hid hL
  have HN := Lib.hid hN
  clear hL hN
  go_enter Tryd.func30, Tryd.ntmps30
  go_wp2_with fail
  go_loopw [5, 6] (fun v i wr => ∃ k : Nat, k ≤ L.length ∧ i = .int .i64 k ∧ OwnF wr w.heap.size v (keptF N (L.take k)) ∧ Below w.heap.size w wr) (fun _ i _ => L.length - (intOf i).toNat)
  case atStart => exact ⟨0, by omega, rfl, Own2.made _ w, (Below.refl _ _).alloc (Nat.le_refl _) _⟩
  case round =>
    obtain ⟨k, hk, rfl, hown, hb⟩ := hrel
    obtain ⟨wo, rfl⟩ : ∃ x, x = wr := ⟨_, rfl⟩
    have hbs := hb.size
    have hvl := keptF_length N (L.take k)
    rw [List.length_take] at hvl
    by_cases hlt : k < L.length
    · have HV := Lib.hid (keptF_snoc N L k hlt)
      obtain ⟨b, o, rfl, x, y, g1, g2, g3, g4⟩ := (h2.below hb).at hlt
      have hxs : x.size ≤ 140737488351232 := by rw [← size_list, g3]; exact HL.out _ (List.getElem_mem hlt)
      have G3 := Lib.hid g3
      have G4 := Lib.hid g4
      clear g3 g4
      go_wp2_with fail
      go_loopw [7, 8] (fun v i wj => ∃ j : Nat, j ≤ N.length ∧ i = .int .i64 j ∧ v = .bool (!amongT L[k].1 (N.take j)) ∧ Below wo.heap.size wo wj) (fun _ i _ => N.length - (intOf i).toNat)
      case atStart => exact ⟨0, by omega, rfl, rfl, Below.refl _ _⟩
      case round =>
        obtain ⟨j, hj, rfl, rfl, hbj⟩ := hrel
        have hbjs := hbj.size
        by_cases hjl : j < N.length
        · have HA := Lib.hid (among_snoc L[k].1 N j hjl)
          obtain ⟨b2, o2, rfl, z, hz, ez⟩ := ((h.below hb).below hbj).at hjl
          have hzs : z.size ≤ 140737488351232 := by rw [← size_list, ez]; exact HN.out _ (List.getElem_mem hjl)
          have EZ := Lib.hid ez
          clear ez
          have g1' := cell_keep g1 hbj
          obtain ⟨fx, hfx⟩ : ∃ f : ByteArray, f = ⟨(fold x.data.toList).toArray⟩ := ⟨_, rfl⟩
          obtain ⟨fn, hfn⟩ : ∃ f : ByteArray, f = ⟨(fold z.data.toList).toArray⟩ := ⟨_, rfl⟩
          have hfxd : fx.data.toList = fold L[k].1 := by rw [hfx, G3.out]
          have hfnd : fn.data.toList = fold N[j] := by rw [hfn, EZ.out]
          have hR : (fx.toList == fn.toList) = decide (fold L[k].1 = fold N[j]) := by rw [strs_eq, hfxd, hfnd]
          obtain ⟨S, hS⟩ : ∃ S : World → Prop, S = fun W => W.cell? ⟨b, o + k * 2, none⟩ = some (.string x) ∧ W.cell? ⟨b2, o2 + j, none⟩ = some (.string z) ∧ Below wo.heap.size wo W := ⟨_, rfl⟩
          have step : ∀ W W', S W → Below W.heap.size W W' → S W' := by
            intro W W' h1 hb
            rw [hS] at h1 ⊢
            exact ⟨cell_keep h1.1 hb, cell_keep h1.2.1 hb, h1.2.2.trans (hb.mono h1.2.2.size)⟩
          have HFX := Lib.hid (fun W (h : S W) => show Calls Tryd.prog 26 #[.string x] W fun e w' => e = .returned (.string fx) ∧ S w' by rw [hfx]; exact (lower_any x W hxs).mono fun _ _ ⟨h1, h2⟩ => ⟨h1, step _ _ h h2⟩)
          have HFN := Lib.hid (fun W (h : S W) => show Calls Tryd.prog 26 #[.string z] W fun e w' => e = .returned (.string fn) ∧ S w' by rw [hfn]; exact (lower_any z W hzs).mono fun _ _ ⟨h1, h2⟩ => ⟨h1, step _ _ h h2⟩)
          have HSS := Lib.hid (fun W => show S W ↔ W.cell? ⟨b, o + k * 2, none⟩ = some (.string x) ∧ W.cell? ⟨b2, o2 + j, none⟩ = some (.string z) ∧ Below wo.heap.size wo W by rw [hS])
          have HK0 := Lib.hid (show S wr.drew by rw [hS]; exact ⟨g1', hz, hbj.drew⟩)
          clear hfx hfn hfxd hfnd g1' hz step hS
          go_wp2_with fail
          go_region_held3 (fun w' => w'.cell? ⟨b, o + k * 2, none⟩ = some (.string x) ∧ w'.cell? ⟨b2, o2 + j, none⟩ = some (.string z) ∧ Below wo.heap.size wo w')
            (first | (with_reducible exact (HSS.out _).1 HK0.out) | (with_reducible exact (HSS.out _).1 HK1.out) | (with_reducible exact (HSS.out _).1 HK2.out))
            (first | (go_at_call 26; (first | (with_reducible refine (HFX.out _ ?_).mono ?_; (first | (with_reducible exact HK0.out) | (with_reducible exact HK2.out)); rintro e w1 ⟨rfl, hk⟩; have HK1 := Lib.hid hk; clear hk) | (with_reducible refine (HFN.out _ ?_).mono ?_; (first | (with_reducible exact HK0.out) | (with_reducible exact HK1.out)); rintro e w2 ⟨rfl, hk⟩; have HK2 := Lib.hid hk; clear hk))))
          have hbj' := ((HSS.out _).1 HK2.out).2.2
          cases hd : decide (fold L[k].1 = fold N[j])
          · have HD := Lib.hid hd
            clear hd
            go_wp2_with fail
            go_roundw
            case rel => exact ⟨j + 1, by omega, by go_num, by rw [HA.out, HD.out, Bool.or_false], hbj'⟩
            case measure => simp [intOf]; omega
          · have HD := Lib.hid hd
            clear hd
            go_wp2_with fail
            go_roundw
            case rel => exact ⟨j + 1, by omega, by go_num, by rw [HA.out, HD.out, Bool.or_true]; rfl, hbj'⟩
            case measure => simp [intOf]; omega
        · obtain rfl : j = N.length := by omega
          rw [List.take_length]
          have hb' := hb.trans (hbj.mono hbs)
          have hown' := hown.below hbj
          have g1' := cell_keep g1 hbj
          have g2' := cell_keep g2 hbj
          cases ho : amongT L[k].1 N
          · have HO := Lib.hid (show outP N L[k] = false from ho)
            clear ho
            have hin := In2.one wr x y 26
            rw [G3.out, G4.out] at hin
            have hown2 := hown'.alloc (.cells #[.string x, .string y] 26)
            go_wp2_with (at_builtin; refine wpList_append2 parF rfl _ _ rfl w.heap.size _ _ rfl hown2 _ 1 _ _ rfl rfl hin (by omega) (by simp; omega) ?_; intro v4 w4 hown4 hgrow4 _)
            go_roundw
            case rel => exact ⟨k + 1, by omega, by go_num, by rw [HV.out, if_neg (by rw [HO.out]; simp)]; exact hown4, Own2.grown (hb'.alloc (by omega) _) (by simp; omega) hown2 hgrow4⟩
            case measure => simp [intOf]; omega
          · have HO := Lib.hid (show outP N L[k] = true from ho)
            clear ho
            go_wp2_with fail
            go_roundw
            case rel => exact ⟨k + 1, by omega, by go_num, by rw [HV.out, if_pos HO.out, List.append_nil]; exact hown', hb'⟩
            case measure => simp [intOf]; omega
    · obtain rfl : k = L.length := by omega
      go_wp2_with fail
      go_ret
      rw [List.take_length] at hown
      exact ⟨_, rfl, hown, hb⟩

set_option maxHeartbeats 4000000 in
theorem refPut_any (L : List Pair) (q : Option Addr) (m d : Nat) (hm : L.length = m) (hmr : m ≤ 4400000000000)
    (a b : ByteArray) (w : World) (hL : ∀ x ∈ L, x.1.length ≤ 140737488351232) (ha : a.size ≤ 140737488351232) (h2 : In2 w q L) :
    Calls Tryd.prog 31 #[.slice q m d, .string a, .string b] w fun e w' => ∃ v, e = .returned v ∧ OwnF w' w.heap.size v (putF a.data.toList b.data.toList L) ∧ Below w.heap.size w w' := by
  subst hm
  have hkl := keptF_length [a.data.toList] L
  have hb0 := (Below.refl w.heap.size w).alloc (Nat.le_refl _) (.cells #[.string a] 9)
  have hs0 : (w.alloc (.cells #[.string a] 9)).heap.size = w.heap.size + 1 := by simp
  have hcall := refWithout_any L q _ d rfl hmr [a.data.toList] _ 1 1 rfl (by omega) (w.alloc (.cells #[.string a] 9)) hL (by intro x hx; rw [List.mem_singleton.1 hx, size_list]; exact ha) (InS.one w a) (h2.alloc _)
  clear hL h2
  go_enter Tryd.func31, Tryd.ntmps31
  go_wp2_with fail
  refine hcall.mono ?_
  rintro e w1 ⟨v1, rfl, hown1, hb1⟩
  rw [hs0] at hown1
  have hs1 := hb1.size
  rw [hs0] at hs1
  have hin := In2.one w1 a b 26
  have hown2 := hown1.alloc (.cells #[.string a, .string b] 26)
  have hb1' := hb1.mono (show w.heap.size ≤ _ by rw [hs0]; omega)
  go_wp2_with (at_builtin; refine wpList_append2 parF rfl _ _ rfl (w.heap.size + 1) _ _ rfl hown2 _ 1 _ _ rfl rfl hin (by omega) (by simp; omega) ?_; intro v4 w4 hown4 hgrow4 _)
  go_ret
  exact ⟨v4, rfl, hown4.mono (by omega), Own2.grown ((hb0.trans hb1').alloc (by omega) _) (by simp; omega) (hown2.mono (by omega)) hgrow4⟩
end Go.Proofs.YtpgjlepjhbjhfaaDoor
