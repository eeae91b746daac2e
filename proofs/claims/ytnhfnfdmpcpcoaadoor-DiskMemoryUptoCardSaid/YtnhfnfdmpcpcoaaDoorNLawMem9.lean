/-
  DiskMemory: what was handed in isn't kept, and what is answered is new memory.
-/
import Derived.Test.YtnhfnfdmpcpcoaaDoorHRefNew9
import Derived.Test.YtnhfnfdmpcpcoaaDoorHTL9
import Derived.Test.YtnhfnfdmpcpcoaaDoorHDuo9
import Derived.Test.YtnhfnfdmpcpcoaaDoorHMem9
import Derived.Test.YtnhfnfdmpcpcoaaDoorN9g
import Derived.Deep.RegionWith
namespace Go.Proofs.YtnhfnfdmpcpcoaaDoor
open Go.RowKit Go.Maps
set_option linter.unusedVariables false

theorem invS_run : ∀ (L : List OpT) (A : Pl), Inv A → InvS A → InvS (runA A L)
  | [], _, _, h => h
  | x :: L, A, hI, h => invS_run L _ (inv_do hI _) (invS_do hI h _)
/-- what lies between two marks alone is written -/
structure Mid (lo hi : Nat) (W W' : World) : Prop where
  blk : ∀ g, (g < lo ∨ hi ≤ g) → W'.heap[g]? = W.heap[g]?
  size : W'.heap.size = W.heap.size
  os : W'.os = W.os
  tape : W'.tape = W.tape
  output : W'.output = W.output
theorem Mid.refl (lo hi : Nat) (W : World) : Mid lo hi W W := ⟨fun _ _ => rfl, rfl, rfl, rfl, rfl⟩
theorem Mid.set {lo hi : Nat} {W W' : World} (h : Mid lo hi W W') (g j : Nat) (v : Value) (h1 : lo ≤ g) (h2 : g < hi) : Mid lo hi W (W'.setCell ⟨g, j, none⟩ v) :=
  ⟨fun k hk => (Below.heap_setCell _ _ _ _ (show k ≠ g by omega)).trans (h.blk k hk), by simp [h.size], h.os, h.tape, h.output⟩
theorem Mid.below {lo hi : Nat} {w W W' : World} (h : Mid lo hi W W') (hb : Below w.heap.size w W) (hl : w.heap.size ≤ lo) : Below w.heap.size w W' :=
  ⟨h.os.trans hb.os, h.tape.trans hb.tape, h.output.trans hb.output, by rw [h.size]; exact hb.size, fun k hk => (h.blk k (.inl (by omega))).trans (hb.block k hk)⟩

set_option maxRecDepth 100000 in
set_option maxHeartbeats 8000000 in
theorem diskMemory_walk (p : Option Addr) (F : List FT) (c : Nat) (room : Int) (q : Option Addr) (Z : List Int) (e : Nat) (power : Int) (ps : Option Addr) (L : List OpT) (cs : Nat) (mk : Int) (w : World)
    (hF : InFs w p F) (hZ : InV w q (Z.map (Value.int .i64))) (hk : bulkFs F + Z.length ≤ 1048576) (hL : InOps w ps L) (hkL : bulkOps L ≤ 1048576) (hLc : L.length ≤ cs) (hmk : 0 ≤ mk ∧ mk ≤ 255) :
    Calls Tryd.prog 8 #[.agg #[.slice p F.length c, .int .i64 room, .slice q Z.length e, .int .i64 power], .slice ps L.length cs, .int .u8 mk] w fun e w' => e = .returned (.bool true) ∧ Below w.heap.size w w' := by
  have hFl := bulkFs_length F
  have hFn : ∀ f ∈ F, f.1.length ≤ 140737488351232 ∧ f.2.length ≤ 140737488351232 := fun f hf => by have := bulkFs_mem F f hf; omega
  go_enter Tryd.func8, Tryd.ntmps8
  go_wp2_with fail
  refine (alive9_any _).mono ?_
  rintro e w1 ⟨rfl, hb1⟩
  have hb0 : Below w.heap.size w (w.alloc (.cells #[.slice p F.length c, .int .i64 room, .slice q Z.length e, .int .i64 power] 25)) := (Below.refl _ w).alloc (Nat.le_refl _) _
  have g0 : w1.heap[w.heap.size]? = some (.cells #[.slice p F.length c, .int .i64 room, .slice q Z.length e, .int .i64 power] 25 (0, 0)) :=
    (hb1.block _ (by simp)).trans (heap_alloc_new w _)
  have hB1 : Below w.heap.size w w1 := hb0.trans (hb1.mono (by simp))
  clear hb0 hb1
  have hcell := fun W (hb : Below w1.heap.size w1 W) => (show W.cell? ⟨w.heap.size, 0, none⟩ = some (.slice p F.length c) ∧ W.cell? ⟨w.heap.size, 1, none⟩ = some (.int .i64 room) ∧ W.cell? ⟨w.heap.size, 2, none⟩ = some (.slice q Z.length e) ∧ W.cell? ⟨w.heap.size, 3, none⟩ = some (.int .i64 power) from by
    have := Below.heap hb g0
    refine ⟨?_, ?_, ?_, ?_⟩ <;> (rw [cell_of_row _ _ _ _ _ _ this]; rfl))
  obtain ⟨a0, a1, a2, a3⟩ := hcell w1 (Below.refl _ _)
  have HCE := Lib.hid hcell
  have HG := Lib.hid (And.intro g0 hB1)
  have hcf := copyFiles_any F p _ c rfl (by omega) (fun f hf => (hFn f hf).2) w1 (hF.below hB1)
  clear hcell g0 hB1
  go_wp2_with fail
  refine hcf.mono ?_
  rintro e2 w2 ⟨v2, rfl, ho2, hb2⟩
  clear hcf a0 a1 a2 a3
  obtain ⟨pf, cf, rfl, _, _, hinf, _⟩ := ho2.shape rfl
  obtain ⟨a0, a1, a2, a3⟩ := HCE.out w2 hb2
  have hci := copyIntsO_any Z q _ e rfl (by omega) w2 (hZ.below (HG.out.2.trans (hb2.mono HG.out.2.size)))
  have H2 := Lib.hid (And.intro ho2 (And.intro hinf hb2))
  clear ho2 hinf hb2
  go_wp2_with fail
  refine hci.mono ?_
  rintro e3 w3 ⟨v3, rfl, ho3, hb3⟩
  clear hci a0 a1 a2 a3
  obtain ⟨pz, cz, rfl, _, _, hinz, _⟩ := owns_shape ho3
  have hb13 : Below w1.heap.size w1 w3 := H2.out.2.2.trans (hb3.mono H2.out.2.2.size)
  obtain ⟨a0, a1, a2, a3⟩ := HCE.out w3 hb13
  have hnew := new_pS F pf _ cf rfl room Z pz _ cz rfl power w3 (H2.out.2.1.below hb3) hinz (by omega) hFn (by omega)
  have H3 := Lib.hid (And.intro (H2.out.1.below hb3) (And.intro (ownsRow_mono ho3 H2.out.2.2.size) (And.intro hinz hb13)))
  clear ho3 hinz hb3 hb13
  go_wp2_with fail
  refine hnew.mono ?_
  rintro e4 w4 ⟨⟨hne, rfl⟩ | ⟨hE, dd, P, rfl, ⟨S, hS, hSA, hSf⟩, hP⟩, hb4⟩
  · obtain ⟨z, hz⟩ : ∃ z, z = newE F room := ⟨_, rfl⟩
    have hb14 := H3.out.2.2.2.trans (hb4.mono H3.out.2.2.2.size)
    have HRN := Lib.hid (fun W (hb : Below w4.heap.size w4 W) => refNew_any (fun _ => False) F p _ c rfl room Z q _ e rfl power W (fun g hg => hg.elim) ((hF.below HG.out.2).below (hb14.trans (hb.mono hb14.size))) (fun g hg => inv_mask (w1 := w1) (hZ.below HG.out.2) (hb14.trans (hb.mono hb14.size)) (fun k hk => hk.elim) hg) (by omega) hFn)
    have HNE := Lib.hid (And.intro hne (And.intro hz hb14))
    clear a0 a1 a2 a3
    obtain ⟨a0, a1, a2, a3⟩ := HCE.out w4 hb14
    rw [← hz] at hne ⊢
    have q1 : (z == 0) = false := beq_eq_false_iff_ne.2 hne
    have q2 : (z != 0) = true := by simp [bne, q1]
    clear hnew hne hb4 hb14 hz
    go_wp2_with fail
    refine (HRN.out w4 (Below.refl _ _)).mono ?_
    rintro e5 w5 ⟨⟨_, rfl⟩ | ⟨h0, _⟩, hb5⟩
    · rw [← HNE.out.2.1]
      have HB := Lib.hid (HG.out.2.trans ((HNE.out.2.2.trans (hb5.mono HNE.out.2.2.size)).mono HG.out.2.size))
      clear hb5
      go_wp2_with fail
      go_ret
      exact ⟨rfl, HB.out.alloc HB.out.size _⟩
    · exact absurd h0 HNE.out.1
  · have hb14 := H3.out.2.2.2.trans (hb4.mono H3.out.2.2.2.size)
    have hrn := refNew_any (fun g => (P g ∧ g < w4.heap.size) ∨ (w1.heap.size ≤ g ∧ g < w3.heap.size)) F p _ c rfl room Z q _ e rfl power w4 (fun g hg => by
      have := hb4.size
      rcases hg with hg | hg
      · exact hg.2
      · omega) ((hF.below HG.out.2).below hb14) (fun g hg => inv_mask (w1 := w1) (hZ.below HG.out.2) hb14 (fun k hk => by
      have := H3.out.2.2.2.size
      rcases hk with hk | hk
      · have := hP k hk.1; omega
      · exact hk.1) hg) (by omega) hFn
    have HD2 := Lib.hid (And.intro hS (And.intro hSA (And.intro hSf (And.intro hP (And.intro hb4 (And.intro hb14 hE))))))
    have hA0 := GoodA.new power hE hk
    have HA0 := Lib.hid hA0
    have HIS := Lib.hid (invS_new (newE_zero hE).1 room Z power)
    clear a0 a1 a2 a3
    obtain ⟨a0, a1, a2, a3⟩ := HCE.out w4 hb14
    obtain ⟨A0, hA0e⟩ : ∃ A0, A0 = newP F room Z power := ⟨_, rfl⟩
    have HA0E := Lib.hid hA0e
    clear hnew hS hSA hSf hP hE hb4 hb14 hA0 hA0e
    go_wp2_with fail
    refine hrn.mono ?_
    rintro e5 w5 ⟨⟨h0, _⟩ | ⟨_, r, rfl, hr⟩, hb5⟩
    · exact absurd HD2.out.2.2.2.2.2.2 h0
    rw [← HA0E.out] at hr
    rw [← HA0E.out]
    obtain ⟨wb, hwb⟩ : ∃ x, x = w5.alloc (.cells (stC r A0) 52) := ⟨_, rfl⟩
    have hbx : Below w5.heap.size w5 wb := by rw [hwb]; exact (Below.refl _ w5).alloc (Nat.le_refl _) _
    have hbox : wb.heap[w5.heap.size]? = some (.cells (stC r A0) 52 (0, 0)) := by rw [hwb]; exact heap_alloc_new w5 _
    have HSIZE := Lib.hid hb5.size
    have hb4b := hb5.trans (hbx.mono hb5.size)
    have hb3b := HD2.out.2.2.2.2.1.trans (hb4b.mono HD2.out.2.2.2.2.1.size)
    have hb1b := H3.out.2.2.2.trans (hb3b.mono H3.out.2.2.2.size)
    have HWB := Lib.hid (And.intro hwb (And.intro hbox (And.intro (hr.step (P' := fun g => (P g ∧ g < w4.heap.size) ∨ ((w1.heap.size ≤ g ∧ g < w3.heap.size) ∨ g = w5.heap.size)) (fun k hk _ => hbx.block k hk) fun k hk => by
      rcases hk with hk | hk | hk
      · exact .inl (.inl hk)
      · exact .inl (.inr hk)
      · exact .inr (by omega)) (And.intro hb4b (And.intro hb3b (And.intro hb1b hbx))))))
    have hfs := H3.out.1.leftX.below hb3b
    have hzs := ownsRow_below H3.out.2.1 hb3b
    have HROW := Lib.hid (And.intro hfs hzs)
    unfold stC at hwb ⊢
    have HWB2 := Lib.hid hwb
    clear hrn hr hbx hbox hb4b hb3b hb1b hfs hzs hb5 hwb a0 a1 a2 a3
    go_wp2_with fail
    rw [← HWB2.out]
    obtain ⟨hm0, hm1⟩ := hmk
    have HSZF := Lib.hid (fun (a : Addr) (ha : pf = some a) => (show a.off = 0 ∧ a.spot = none ∧ w1.heap.size ≤ a.block ∧ a.block < w3.heap.size from by
      obtain ⟨E, h1, h2, _⟩ := H3.out.1
      rcases h1.2 with ⟨e1, _⟩ | ⟨g, cap, cur, e1, hb, hg, _⟩
      · injection e1 with e1; rw [ha] at e1; cases e1
      · injection e1 with e1
        rw [ha] at e1
        have e1 := Option.some.inj e1
        subst e1
        exact ⟨rfl, rfl, hb, lt_of_heap hg⟩))
    obtain ⟨ns, hns⟩ : ∃ ns, ns = F.map fun f => f.2.length := ⟨_, rfl⟩
    have hnl : ns.length = F.length := by rw [hns, List.length_map]
    have hrows := HROW.out
    rw [← hns] at hrows
    have HROW2 := Lib.hid hrows
    have HNB := Lib.hid (show ∀ (k : Nat) (h : k < ns.length), ns[k] ≤ 1048576 from fun k h => by
      subst hns
      rw [List.getElem_map]
      have := bulkFs_mem F F[k] (List.getElem_mem (by omega))
      omega)
    clear hrows hns
    go_loopw [13] (fun i wr => ∃ k : Nat, k ≤ F.length ∧ i = .int .i64 k ∧ LeftX wr w1.heap.size w3.heap.size (.slice pf F.length cf) ns ∧ (∃ xs, wr.ownsRow w1.heap.size 3 1 (.slice pz Z.length cz) Z.length xs) ∧ Mid w1.heap.size w3.heap.size wb wr) (fun i _ => F.length - (intOf i).toNat)
    case atStart => exact ⟨0, Nat.zero_le _, rfl, HROW2.out.1, ⟨_, HROW2.out.2⟩, Mid.refl _ _ _⟩
    case round =>
      obtain ⟨k, hkF, rfl, hlx, ⟨xs, hfx⟩, hmid⟩ := hrel
      by_cases hlt : k < F.length
      · obtain ⟨g, c0, hpf, hgb⟩ := hlx.form (by omega)
        obtain ⟨rfl, rfl⟩ : pf = some ⟨g, 0, none⟩ ∧ cf = c0 := by injection hpf with e1 _ e2; exact ⟨e1, e2⟩
        have hgh := (HSZF.out _ rfl).2.2.2
        have hkn : k < ns.length := by omega
        obtain ⟨n0, hn0⟩ : ∃ n0, n0 = ns[k] := ⟨_, rfl⟩
        have HIN := Lib.hid (And.intro hlx (And.intro hfx (And.intro hmid hn0)))
        have hnb : n0 ≤ 1048576 := by rw [hn0]; exact HNB.out k hkn
        obtain ⟨wq, hwq⟩ : ∃ x, x = wr := ⟨_, rfl⟩
        subst hwq
        clear hlx hfx hmid hpf hn0
        go_wp2_with fail
        go_loopw [14] (fun j wr => ∃ m : Nat, m ≤ n0 ∧ j = .int .i64 m ∧ LeftX wr w1.heap.size w3.heap.size (.slice (some ⟨g, 0, none⟩) F.length cf) ns ∧ (∃ xs, wr.ownsRow w1.heap.size 3 1 (.slice pz Z.length cz) Z.length xs) ∧ Mid w1.heap.size w3.heap.size wb wr) (fun j _ => n0 - (intOf j).toNat)
        case atStart => exact ⟨0, Nat.zero_le _, rfl, HIN.out.1, ⟨_, HIN.out.2.1⟩, HIN.out.2.2.1⟩
        case round =>
          obtain ⟨m, hmn, rfl, hlx, ⟨xs, hfx⟩, hmid⟩ := hrel
          by_cases hml : m < n0
          · obtain ⟨gd, cd, cs', hcd, hgb', hgh', hgx, hall⟩ := hlx.dat hkn (by rw [← HIN.out.2.2.2]; omega)
            rw [← HIN.out.2.2.2] at hcd hall
            obtain ⟨⟨x, hcx⟩, hfr⟩ := hall m hml
            have hl2 := hlx.poke hgx m mk hm0 hm1
            have hf2 := ownsRow_setCell_other hfx (row_ne hfx hgx (by decide)) (a := ⟨gd, m, none⟩) (.int .u8 mk)
            have hm2 := hmid.set gd m (.int .u8 mk) hgb' hgh'
            have H2' := Lib.hid (And.intro hl2 (And.intro hf2 hm2))
            clear hlx hfx hmid hall hgx hl2 hf2 hm2
            go_wp2_with fail
            go_roundw
            case rel => exact ⟨m + 1, by omega, by go_num, H2'.out.1, ⟨_, H2'.out.2.1⟩, H2'.out.2.2⟩
            case measure => simp [intOf]; omega
          · obtain rfl : m = n0 := by omega
            obtain ⟨q', c', hcd⟩ := hlx.row hkn
            rw [← HIN.out.2.2.2] at hcd
            obtain ⟨_, _, _, _, _, _, ⟨x, hcx⟩, hfr⟩ := hlx.at hkn
            have hl2 := hlx.name hkn ⟨#[109, 97, 114, 107]⟩
            have hgx : ∃ cur : Array Value, wr.heap[g]? = some (.cells cur 45 (0, 0)) := by
              obtain ⟨E, h1, h2, _⟩ := hlx
              obtain ⟨g', c', cur, eg, _, _, hg, _⟩ := row_opened h1 (by omega)
              obtain rfl : g = g' := by injection eg with eg; injection eg with eg; injection eg
              exact ⟨cur, hg⟩
            obtain ⟨cur, hgx⟩ := hgx
            have hf2 := ownsRow_setCell_other hfx (row_ne hfx hgx (by decide)) (a := ⟨g, k * 2, none⟩) (.string ⟨#[109, 97, 114, 107]⟩)
            have hm2 := hmid.set g (k * 2) (.string ⟨#[109, 97, 114, 107]⟩) hgb hgh
            have H2' := Lib.hid (And.intro hl2 (And.intro hf2 hm2))
            clear hlx hfx hmid hgx hl2 hf2 hm2
            go_wp2_with fail
            go_roundw
            case rel => exact ⟨k + 1, by omega, by go_num, H2'.out.1, ⟨_, H2'.out.2.1⟩, H2'.out.2.2⟩
            case measure => simp [intOf]; omega
      · obtain rfl : k = F.length := by omega
        have HF3 := Lib.hid (And.intro hfx hmid)
        clear hlx hfx hmid
        go_wp2_with fail
        go_loopw [15] (fun i wr => ∃ k : Nat, k ≤ Z.length ∧ i = .int .i64 k ∧ (∃ xs, wr.ownsRow w1.heap.size 3 1 (.slice pz Z.length cz) Z.length xs) ∧ Mid w1.heap.size w3.heap.size wb wr) (fun i _ => Z.length - (intOf i).toNat)
        case atStart => exact ⟨0, Nat.zero_le _, rfl, ⟨_, HF3.out.1⟩, HF3.out.2⟩
        case round =>
          obtain ⟨k, hkZ, rfl, ⟨xs, hfx⟩, hmid⟩ := hrel
          by_cases hlt : k < Z.length
          · have hlen := hfx.1
            obtain ⟨g, c0, cur, hpz, hgb, _, hgx, _⟩ := row_opened hfx (by omega)
            have hgh : g < w3.heap.size := by
              have h3 := World.ownsRow.lt H3.out.2.1 g (by rw [hpz]; rfl)
              exact h3.2
            obtain ⟨rfl, rfl⟩ : pz = some ⟨g, 0, none⟩ ∧ cz = c0 := by injection hpz with e1 _ e2; exact ⟨e1, e2⟩
            have hca := World.ownsRow.cellAt hfx k (by omega)
            rw [List.getElem?_eq_getElem (by omega)] at hca
            have hfa := World.ownsRow.frozenAt hfx k
            have hst := (World.ownsRow.stored hfx k (.int .i64 1)).1
            have hm2 := hmid.set g k (.int .i64 1) hgb hgh
            have H2' := Lib.hid (And.intro hst hm2)
            generalize xs[k] = xk at hca
            clear hfx hmid hst hm2 hgx hlen hpz
            go_wp2_with fail
            go_roundw
            case rel => exact ⟨k + 1, by omega, by go_num, ⟨_, H2'.out.1⟩, H2'.out.2⟩
            case measure => simp [intOf]; omega
          · obtain rfl : k = Z.length := by omega
            have hTL : TL w1 w5.heap.size dd A0 r wr := by
              obtain ⟨h1, h2, h3, h4, h5, h6, h7, h8, h9⟩ := And.intro HD2.out.1 (And.intro HD2.out.2.1 (And.intro HD2.out.2.2.1 (And.intro HD2.out.2.2.2.1 (And.intro HWB.out.2.1 (And.intro HWB.out.2.2.1 (And.intro HWB.out.2.2.2.1 (And.intro HWB.out.2.2.2.2.2.1 HWB.out.2.2.2.2.2.2)))))))
              have hs3 := HD2.out.2.2.2.2.1.size
              have hs13 := H3.out.2.2.2.size
              have hs5 : w4.heap.size ≤ w5.heap.size := HSIZE.out
              have hbb : w5.heap.size < wb.heap.size := lt_of_heap h5
              have hpend : S.pend = [] := by
                have : (absD S).pend = [] := by rw [h2]; rfl
                unfold absD at this
                simpa using this
              have hdA := ((h1.shrink.below h7).ahead (w' := wr) (fun g hg => h4 g hg.1) h3 hpend fun g hg => hmid.blk g (.inr hg))
              refine ⟨⟨⟨_, ⟨S, hdA, by rw [h2, HA0E.out]⟩, fun g hg => ⟨?_, ?_⟩, ?_⟩, fun g hg => ?_, hmid.below h8 (Nat.le_refl _)⟩, (hmid.blk _ (.inr (by omega))).trans h5⟩
              · have := h4 g hg.1; omega
              · have := hg.2; omega
              · refine h6.step (fun k hk hn => hmid.blk k ?_) fun k hk => ?_
                · by_cases h : w1.heap.size ≤ k ∧ k < w3.heap.size
                  · exact absurd (.inr (.inl h)) hn
                  · omega
                · rcases hk with hk | hk
                  · exact .inl (.inl hk)
                  · exact .inl (.inr (.inr hk))
              · rw [hg, hmid.size]; exact hbb
            have HT0 := Lib.hid hTL
            clear hfx hmid hTL
            have hcut := cut_any L ps _ cs rfl hLc wr
            go_wp2_with fail
            refine hcut.mono ?_
            rintro e6 w6 ⟨c6, rfl, hb6⟩
            clear hcut
            obtain ⟨M, hM⟩ : ∃ M, M = L.take 300 := ⟨_, rfl⟩
            rw [← hM]
            have hMl : M.length ≤ 300 := by rw [hM, List.length_take]; omega
            have hMk : ∀ x ∈ M, x.2.1.length + x.2.2.1.length + x.2.2.2.length ≤ 1048576 := fun x hx => Nat.le_trans (bulkOps_mem L x (by rw [hM] at hx; exact List.mem_of_mem_take hx)) hkL
            have hMi : InOps w ps M := by rw [hM]; exact hL.take 300
            have HD5 := Lib.hid (HT0.out.below hb6)
            have HGA := Lib.hid (fun k (hk : k ≤ M.length) => (show GoodA k (runA A0 (M.take k)) by rw [HA0E.out]; exact GoodA.run HA0.out M k hk))
            obtain ⟨rb, hrb⟩ : ∃ rb, rb = w5.heap.size := ⟨_, rfl⟩
            rw [← hrb] at HD5 ⊢
            have HRB := Lib.hid (show w1.heap.size ≤ rb by rw [hrb]; exact Nat.le_trans HD2.out.2.2.2.2.2.1.size HSIZE.out)
            clear hM hb6 hrb
            go_wp2_with fail
            go_loopw [16] (fun i wr => ∃ (k : Nat) (r : RC), k ≤ M.length ∧ i = .int .i64 k ∧ TL w1 rb dd (runA A0 (M.take k)) r wr) (fun i _ => M.length - (intOf i).toNat)
            case atStart => exact ⟨0, r, Nat.zero_le _, rfl, HD5.out⟩
            case round =>
              clear HD5
              obtain ⟨k, rr, hkm, rfl, hd⟩ := hrel
              have hBw : Below w.heap.size w wr := HG.out.2.trans (hd.1.blw.mono HG.out.2.size)
              by_cases hlt : k < M.length
              · have hAk := HGA.out k hkm
                have hAk1 := HGA.out (k + 1) hlt
                have hsz := hMk M[k] (List.getElem_mem hlt)
                have hsn := runA_snoc A0 hlt
                obtain ⟨b, o, rfl, na, nb, qo, co, o0, o1, o2, o3, o4, o5, o6⟩ := hMi k hlt
                generalize M[k] = x at o0 o1 o2 o3 o4 o5 o6 hsz hsn
                obtain ⟨wh, ba, bb, bl⟩ := x
                simp only at o0 o1 o2 o3 o4 o5 o6 hsz hsn
                subst o4 o5
                rw [hsn] at hAk1
                obtain ⟨A, hA⟩ : ∃ A, A = runA A0 (M.take k) := ⟨_, rfl⟩
                rw [← hA] at hd hAk hAk1 hsn
                obtain ⟨op, hop⟩ : ∃ op, op = opOf wh na.data.toList nb.data.toList bl := ⟨_, rfl⟩
                rw [← hop] at hAk1 hsn
                have HSN := Lib.hid (And.intro hsn (And.intro hop hAk1))
                have HO6 := Lib.hid o6
                have HNA := Lib.hid (show na.size ≤ 140737488351232 by rw [size_list] at hsz; omega)
                have HDk := Lib.hid (And.intro hd (And.intro hAk hBw))
                have v0 := cell_keep o0 hBw
                have v1 := cell_keep o1 hBw
                have v2 := cell_keep o2 hBw
                have v3 := cell_keep o3 hBw
                have hst := step_any wh na nb (.slice qo bl.length co) qo _ co rfl wr
                have hbll : bl.length ≤ 1048576 := by omega
                have HSZ := Lib.hid hsz
                clear hA hsn hop hAk hAk1 hBw hd o0 o1 o2 o3 o6 hsz
                go_wp2_with fail
                refine hst.mono ?_
                rintro e7 w7 ⟨rfl, hb7⟩
                clear hst
                obtain ⟨wo, hwo⟩ : ∃ x, x = w7.alloc (.cells #[.int .i64 (stepI wh), .string na, .string nb, .slice qo bl.length co] 57) := ⟨_, rfl⟩
                have hbo : Below wr.heap.size wr wo := by rw [hwo]; exact hb7.alloc hb7.size _
                have hobx : wo.heap[w7.heap.size]? = some (.cells #[.int .i64 (stepI wh), .string na, .string nb, .slice qo bl.length co] 57 (0, 0)) := by rw [hwo]; exact heap_alloc_new w7 _
                have hino := HO6.out.below (HDk.out.2.2.trans (hbo.mono HDk.out.2.2.size))
                have hcb := copyBytes_any bl qo _ co rfl (by omega) wo hino
                obtain ⟨b0, b1, b2, b3⟩ := op4v hobx
                rw [hwo] at b0 b1 b2 b3 hcb
                have HO := Lib.hid (And.intro hwo (And.intro hbo (And.intro hobx hb7.size)))
                clear hwo hbo hobx hino hb7 v0 v1 v2 v3
                go_wp2_with fail
                refine hcb.mono ?_
                rw [← HO.out.1]
                rintro e8 w8 ⟨v8, rfl, ho8, hb8⟩
                clear hcb b0 b1 b2 b3
                obtain ⟨pw, cw, rfl, hcw1, hcw2, hinw⟩ := ho8.in8n rfl
                have hbr8 : Below wr.heap.size wr w8 := HO.out.2.1.trans (hb8.mono HO.out.2.1.size)
                have hob8 := Below.heap hb8 HO.out.2.2.1
                have hrb8 := Below.heap hbr8 HDk.out.1.2
                have hduo := HDk.out.1.1.add hbr8 (fun g => (g = rb ∨ g = w7.heap.size) ∨ (Value.slice pw bl.length cw).ownBlock = some g) (fun g hg => by
                  rcases hg with (hg | hg) | hg
                  · exact .inl hg
                  · exact .inr ⟨by rw [hg]; exact HO.out.2.2.2, by rw [hg]; exact lt_of_heap hob8⟩
                  · have := World.ownsRow.lt ho8 g hg
                    have := HO.out.2.1.size
                    exact .inr ⟨by omega, by omega⟩)
                obtain ⟨A', hA'⟩ : ∃ A', A' = (doP A op).1 := ⟨_, rfl⟩
                have hdo := do_duo hduo wh na nb bl qo _ co rfl HSZ.out (HO6.out.below (HDk.out.2.2.trans (hbr8.mono HDk.out.2.2.size))) (HDk.out.2.1.fitP (by omega))
                rw [← HSN.out.2.1, ← hA'] at hdo
                have hop2 : stepI wh = 2 → op = .append na.data.toList bl := fun e => by
                  rw [HSN.out.2.1, ← opOf_step, e]; rfl
                have hap := appendD_duo hduo na HNA.out bl pw _ cw rfl (by omega) hinw (HDk.out.2.1.fitP (by omega))
                have HAP := Lib.hid (And.intro hap hdo)
                have HA := Lib.hid hA'
                have HOP2 := Lib.hid hop2
                have H8 := Lib.hid (And.intro ho8 (And.intro hob8 (And.intro hrb8 (And.intro hbr8 (World.ownsRow.lt ho8)))))
                obtain ⟨b0, b1, b2, b3⟩ := op4v hob8
                clear hdo hap hduo hA' hop2 ho8 hob8 hrb8 hbr8 hinw hcw1 hcw2 hb8
                have hcase : stepI wh = 2 ∨ stepI wh ≠ 2 := Decidable.em _
                rcases hcase with h2 | h2
                case' inl =>
                  have hq2 : (stepI wh == 2) = true := beq_iff_eq.2 h2
                  have hcall := HAP.out.1
                  rw [← HOP2.out h2, ← HA.out] at hcall
                  have HC := Lib.hid hcall
                  clear hcall
                  go_wp2_with fail
                  refine HC.out.mono ?_
                  rintro e9 w9 ⟨z9, rfl, _, hd9, hn9⟩
                case' inr =>
                  have hq2 : (stepI wh == 2) = false := beq_eq_false_iff_ne.2 h2
                  have HC := Lib.hid HAP.out.2
                  go_wp2_with fail
                  refine HC.out.mono ?_
                  rintro e9 w9 ⟨z9, rfl, _, hd9, hn9⟩
                all_goals
                  clear b0 b1 b2 b3 HC HAP hq2 h2
                  have ho9 : Own8 w9 wr.heap.size (.slice pw bl.length cw) bl := by
                    have h := H8.out.1
                    refine ⟨h.1, ?_⟩
                    rcases h.2 with h0 | ⟨g, cap, cur, e1, c1, c2, rr2⟩
                    · exact .inl h0
                    · exact .inr ⟨g, cap, cur, e1, Nat.le_trans HO.out.2.1.size c1, (hn9 g (.inr (by rw [e1]; rfl))).trans c2, rr2⟩
                  have hob9 := (hn9 _ (.inl (.inr rfl))).trans H8.out.2.1
                  have hrb9 := (hn9 _ (.inl (.inl rfl))).trans H8.out.2.2.1
                  have H9 := Lib.hid (And.intro hd9 (And.intro ho9 (And.intro hob9 hrb9)))
                  obtain ⟨wq, hwq⟩ : ∃ x, x = wr := ⟨_, rfl⟩
                  subst hwq
                  clear hd9 hn9 ho9 hob9 hrb9
                  go_wp2_with fail
                  go_loopw [19] (fun j wr => ∃ (m : Nat) (l' : BS), m ≤ bl.length ∧ j = .int .i64 m ∧ l'.length = bl.length ∧ Own8 wr wq.heap.size (.slice pw bl.length cw) l' ∧ Duo w1 (fun g => (g = rb ∨ g = w7.heap.size) ∨ (Value.slice pw bl.length cw).ownBlock = some g) dd A' rr A wr ∧ wr.heap[w7.heap.size]? = some (.cells #[.int .i64 (stepI wh), .string na, .string nb, .slice qo bl.length co] 57 (0, 0)) ∧ wr.heap[rb]? = some (.cells (stC rr A) 52 (0, 0))) (fun j _ => bl.length - (intOf j).toNat)
                  case atStart => exact ⟨0, bl, Nat.zero_le _, rfl, rfl, H9.out.2.1, H9.out.1, H9.out.2.2.1, H9.out.2.2.2⟩
                  case round =>
                    obtain ⟨m, l', hml, rfl, hl', ho, hdu, hob, hrb⟩ := hrel
                    by_cases hlm : m < bl.length
                    · obtain ⟨g, c0, cur, hpw, hgb, _, hgx, _⟩ := row_opened ho (by omega)
                      have hfin : ∃ x : Value, Value.slice pw bl.length cw = .slice (some ⟨g, 0, none⟩) bl.length cw ∧ wr.cell? ⟨g, m, none⟩ = some x ∧ wr.frozen? ⟨g, m, none⟩ = false ∧ Own8 (wr.setCell ⟨g, m, none⟩ (.int .u8 mk)) wq.heap.size (.slice pw bl.length cw) (l'.set m (ubyte mk)) ∧ Duo w1 (fun g => (g = rb ∨ g = w7.heap.size) ∨ (Value.slice pw bl.length cw).ownBlock = some g) dd A' rr A (wr.setCell ⟨g, m, none⟩ (.int .u8 mk)) ∧ (wr.setCell ⟨g, m, none⟩ (.int .u8 mk)).heap[w7.heap.size]? = some (.cells #[.int .i64 (stepI wh), .string na, .string nb, .slice qo bl.length co] 57 (0, 0)) ∧ (wr.setCell ⟨g, m, none⟩ (.int .u8 mk)).heap[rb]? = some (.cells (stC rr A) 52 (0, 0)) := by
                        rw [hl'] at hpw
                        obtain ⟨e1, e2⟩ : pw = some ⟨g, 0, none⟩ ∧ cw = c0 := by injection hpw with e1 _ e2; exact ⟨e1, e2⟩
                        subst e2
                        rw [e1] at ho
                        have hN : (fun g => (g = rb ∨ g = w7.heap.size) ∨ (Value.slice pw bl.length cw).ownBlock = some g) g := .inr (by rw [e1]; rfl)
                        have hgw : w1.heap.size ≤ g := Nat.le_trans HDk.out.1.1.blw.size hgb
                        have hd2 := duo_poke hdu ho hl' (by omega) hN hgw m mk
                        have hs2 := (Own8.stored ho hl' m mk hm0 hm1).1
                        have hc := Own8.cells ho hl' hlm
                        rw [← e1] at hs2
                        refine ⟨_, by rw [e1], hc.1, hc.2, hs2, hd2, ?_, ?_⟩
                        · exact (Below.heap_setCell _ _ _ _ (fun e => blk_ne hgx hob (by decide) e.symm)).trans hob
                        · exact (Below.heap_setCell _ _ _ _ (fun e => blk_ne hgx hrb (by decide) e.symm)).trans hrb
                      obtain ⟨x, hv, hcx, hfr, hs2, hd2, hob2, hrb2⟩ := hfin
                      have H2' := Lib.hid (And.intro hs2 (And.intro hd2 (And.intro hob2 hrb2)))
                      have hpe : pw = some ⟨g, 0, none⟩ := by injection hv
                      have HPE := Lib.hid (show (l'.set m (ubyte mk)).length = bl.length by rw [List.length_set]; exact hl')
                      clear hs2 hd2 hob2 hrb2 ho hdu hob hrb hpw hgx hv
                      rw [hpe]
                      go_wp2_with fail
                      go_roundw
                      case rel => rw [← hpe]; exact ⟨m + 1, _, by omega, by go_num, HPE.out, H2'.out.1, H2'.out.2.1, H2'.out.2.2.1, H2'.out.2.2.2⟩
                      case measure => simp [intOf]; omega
                    · obtain rfl : m = bl.length := by omega
                      have hstep := refStep_duo hdu wh na nb bl qo _ co rfl HSZ.out (HO6.out.below (HG.out.2.trans (hdu.blw.mono HG.out.2.size))) HDk.out.2.1.inv (HDk.out.2.1.fitP (by omega))
                      rw [← HSN.out.2.1, ← HA.out] at hstep
                      obtain ⟨z, hz⟩ : ∃ z, z = (doP A op).2 := ⟨_, rfl⟩
                      rw [← hz] at hstep
                      have hrbu := hrb
                      unfold stC at hstep hrbu
                      obtain ⟨a0, a1, a2, a3, a4, a5, a6, a7, a8, af⟩ := st9v hrbu
                      obtain ⟨b0, b1, b2, b3⟩ := op4v hob
                      have HS := Lib.hid (And.intro hrbu hob)
                      clear ho hdu hob hrb hrbu hz af
                      go_wp2_with fail
                      refine hstep.mono ?_
                      rintro e11 w11 ⟨r', rfl, hd11, hb11⟩
                      clear hstep a0 a1 a2 a3 a4 a5 a6 a7 a8 b0 b1 b2 b3
                      obtain ⟨wn, hwn⟩ : ∃ x, x = w11.alloc (.cells (stC r' A') 52) := ⟨_, rfl⟩
                      have hbn : Below w11.heap.size w11 wn := by rw [hwn]; exact (Below.refl _ w11).alloc (Nat.le_refl _) _
                      have hnbx : wn.heap[w11.heap.size]? = some (.cells (stC r' A') 52 (0, 0)) := by rw [hwn]; exact heap_alloc_new w11 _
                      have hrbn := Below.heap (hb11.trans (hbn.mono hb11.size)) HS.out.1
                      have hobn := Below.heap (hb11.trans (hbn.mono hb11.size)) HS.out.2
                      have hdn := hd11.below hbn
                      unfold stC at hwn hnbx
                      obtain ⟨n0, n1, n2, n3, n4, n5, n6, n7, n8, nf⟩ := st9v hnbx
                      obtain ⟨a0, a1, a2, a3, a4, a5, a6, a7, a8, af⟩ := st9v hrbn
                      rw [hwn] at n0 n1 n2 n3 n4 n5 n6 n7 n8 a0 a1 a2 a3 a4 a5 a6 a7 a8 af
                      have HN := Lib.hid (And.intro hwn (And.intro hrbn (And.intro hdn hobn)))
                      have hobp : (put9 wn rb (.slice r'.p1 A'.now.length r'.c1) (.slice r'.p2 A'.safe.length r'.c2) (.slice r'.p3 A'.pend.length r'.c3) (.slice r'.p4 A'.files.length r'.c4) (.slice r'.p5 A'.files.length r'.c5) (.int .i64 (A'.room : Int)) (.slice r'.p6 A'.fails.length r'.c6) (.int .i64 A'.power) (.int .i64 (A'.steps : Int))).heap[w7.heap.size]? = some (.cells #[.int .i64 (stepI wh), .string na, .string nb, .slice qo bl.length co] 57 (0, 0)) := (put9_heap _ (blk_ne hobn hrbn (by decide))).trans hobn
                      obtain ⟨b0, b1, b2, b3⟩ := op4v hobp
                      unfold put9 at b0 b1 b2 b3
                      rw [hwn] at b0 b1 b2 b3
                      clear hwn hbn hnbx hrbn hd11 hb11 hdn nf hobn hobp
                      go_wp2_with fail
                      clear b0 b1 b2 b3
                      obtain ⟨wx, hwx⟩ : ∃ x, x = put9 wn rb (.slice r'.p1 A'.now.length r'.c1) (.slice r'.p2 A'.safe.length r'.c2) (.slice r'.p3 A'.pend.length r'.c3) (.slice r'.p4 A'.files.length r'.c4) (.slice r'.p5 A'.files.length r'.c5) (.int .i64 (A'.room : Int)) (.slice r'.p6 A'.fails.length r'.c6) (.int .i64 A'.power) (.int .i64 (A'.steps : Int)) := ⟨_, rfl⟩
                      have hdx : Duo w1 (fun g => (g = rb ∨ g = w7.heap.size) ∨ (Value.slice pw bl.length cw).ownBlock = some g) dd A' r' A' wx := by
                        rw [hwx]
                        exact HN.out.2.2.1.write HN.out.2.1 (.inl (.inl rfl)) (by decide) (by decide) (fun z e => by cases e) (fun g hg => put9_heap g hg) put9_size (put9_below HN.out.2.2.1.blw HRB.out)
                      have hrbx : wx.heap[rb]? = some (.cells (stC r' A') 52 (0, 0)) := by rw [hwx]; exact put9_same HN.out.2.1
                      have hobx : wx.heap[w7.heap.size]? = some (.cells #[.int .i64 (stepI wh), .string na, .string nb, .slice qo bl.length co] 57 (0, 0)) := by rw [hwx]; exact (put9_heap _ (blk_ne HN.out.2.2.2 HN.out.2.1 (by decide))).trans HN.out.2.2.2
                      unfold put9 at hwx
                      rw [HN.out.1] at hwx
                      rw [← hwx]
                      have hT0 : TL w1 rb dd A' r' wx := ⟨hdx.less fun g hg => .inl (.inl hg), hrbx⟩
                      have hAk1 : GoodA (k + 1) A' := by rw [HA.out]; exact HSN.out.2.2
                      have HT0 := Lib.hid (And.intro hT0 hAk1)
                      have HREL := Lib.hid (show runA A0 (M.take (k + 1)) = A' from by rw [HSN.out.1, ← HA.out])
                      have HWX := Lib.hid hwx
                      have hrd := read_dp hT0.1.dp hAk1 (by omega) na HNA.out
                      have hrl := readP_len hAk1 na.data.toList
                      obtain ⟨R, hR⟩ : ∃ R, R = readP A' na.data.toList := ⟨_, rfl⟩
                      rw [← hR] at hrd hrl
                      obtain ⟨nR, hnR⟩ : ∃ nR, nR = R.length := ⟨_, rfl⟩
                      rw [← hnR] at hrd hrl
                      have HNR := Lib.hid hnR
                      clear hdx hrbx hobx hwx hT0 hAk1 hR hnR n0 n1 n2 n3 n4 n5 n6 n7 n8 a0 a1 a2 a3 a4 a5 a6 a7 a8 af
                      refine hrd.mono ?_
                      rintro e13 w13 ⟨pb, cb, rfl, _, _, _, _, hob13, hb13⟩
                      have HB13 := Lib.hid (And.intro hob13 hb13)
                      clear hrd hob13 hb13
                      go_wp2_with fail
                      go_loopw [24] (fun j wr => ∃ (m : Nat) (l' : BS), m ≤ nR ∧ j = .int .i64 m ∧ l'.length = nR ∧ Own8 wr wx.heap.size (.slice pb nR cb) l' ∧ Below wx.heap.size wx wr) (fun j _ => nR - (intOf j).toNat)
                      case atStart => exact ⟨0, R, Nat.zero_le _, rfl, HNR.out.symm, HB13.out.1, HB13.out.2⟩
                      case round =>
                        obtain ⟨m, l', hml, rfl, hl', ho, hb⟩ := hrel
                        by_cases hlm : m < nR
                        · obtain ⟨g, c0, cur, hpw, hgb, _, hgx, _⟩ := row_opened ho (by omega)
                          rw [hl'] at hpw
                          obtain ⟨e1, e2⟩ : pb = some ⟨g, 0, none⟩ ∧ cb = c0 := by injection hpw with e1 _ e2; exact ⟨e1, e2⟩
                          rw [e1] at ho
                          have hs2 := (Own8.stored ho hl' m mk hm0 hm1).1
                          obtain ⟨hcx, hfr⟩ := Own8.cells ho hl' hlm
                          rw [← e1] at hs2
                          have H2' := Lib.hid (And.intro hs2 (hb.setCell (p := ⟨g, m, none⟩) hgb (.int .u8 mk)))
                          have HPE := Lib.hid (show (l'.set m (ubyte mk)).length = nR by rw [List.length_set]; exact hl')
                          generalize bt l' m = xb at hcx
                          clear hs2 ho hpw hgx e2
                          rw [e1]
                          go_wp2_with fail
                          go_roundw
                          case rel => rw [← e1]; exact ⟨m + 1, _, by omega, by go_num, HPE.out, H2'.out.1, H2'.out.2⟩
                          case measure => simp [intOf]; omega
                        · obtain rfl : m = nR := by omega
                          have hli := list_dp (HT0.out.1.below hb).1.dp HT0.out.2 (by omega)
                          have hln := listP_len HT0.out.2 (by omega)
                          obtain ⟨nL, hnL⟩ : ∃ nL, nL = (listP A').length := ⟨_, rfl⟩
                          rw [← hnL] at hli hln
                          have HNL := Lib.hid hnL
                          have HB14 := Lib.hid hb
                          clear ho hb hnL
                          go_wp2_with fail
                          refine hli.mono ?_
                          rintro e15 w15 ⟨pl, cl, rfl, hos, _, hb15⟩
                          have hos := ownsRow_mono hos HB14.out.size
                          rw [← HNL.out] at hos
                          have HB15 := Lib.hid (And.intro hos (HB14.out.trans (hb15.mono HB14.out.size)))
                          clear hli hos hb15
                          go_wp2_with fail
                          go_loopw [26] (fun j wr => ∃ m : Nat, m ≤ nL ∧ j = .int .i64 m ∧ (∃ xs, wr.ownsRow wx.heap.size 9 1 (.slice pl nL cl) nL xs) ∧ Below wx.heap.size wx wr) (fun j _ => nL - (intOf j).toNat)
                          case atStart => exact ⟨0, Nat.zero_le _, rfl, ⟨_, HB15.out.1⟩, HB15.out.2⟩
                          case round =>
                            obtain ⟨m, hml, rfl, ⟨xs, ho⟩, hb⟩ := hrel
                            by_cases hlm : m < nL
                            · have hlen := ho.1
                              obtain ⟨g, c0, cur, hpw, hgb, _, hgx, _⟩ := row_opened ho (by omega)
                              obtain ⟨e1, e2⟩ : pl = some ⟨g, 0, none⟩ ∧ cl = c0 := by injection hpw with e1 _ e2; exact ⟨e1, e2⟩
                              rw [e1] at ho
                              have hcx := World.ownsRow.cellAt ho m (by omega)
                              rw [List.getElem?_eq_getElem (by omega)] at hcx
                              have hfr := World.ownsRow.frozenAt ho m
                              have hs2 := (World.ownsRow.stored ho m (.string ⟨#[109, 97, 114, 107]⟩)).1
                              rw [← e1] at hs2
                              have H2' := Lib.hid (And.intro hs2 (hb.setCell (p := ⟨g, m, none⟩) hgb (.string ⟨#[109, 97, 114, 107]⟩)))
                              generalize xs[m] = xk at hcx
                              clear hs2 ho hpw hgx e2 hlen hb
                              rw [e1]
                              go_wp2_with fail
                              go_roundw
                              case rel => rw [← e1]; exact ⟨m + 1, by omega, by go_num, ⟨_, H2'.out.1⟩, H2'.out.2⟩
                              case measure => simp [intOf]; omega
                            · obtain rfl : m = nL := by omega
                              have hlf := left_dp (HT0.out.1.below hb).1.dp HT0.out.2 (by omega) 0 [] none 0 0 rfl (fun h => absurd h (by simp))
                              have hlb := left_bounds HT0.out.2 (by omega) 0 []
                              obtain ⟨F0, hF0⟩ : ∃ F0, F0 = leftP A' 0 [] := ⟨_, rfl⟩
                              rw [← hF0] at hlf hlb
                              obtain ⟨nF, hnF⟩ : ∃ nF, nF = F0.length := ⟨_, rfl⟩
                              rw [← hnF] at hlf
                              have HLB := Lib.hid (And.intro hlb hnF)
                              have HB16 := Lib.hid hb
                              have hnFl : nF ≤ 140737488351232 := by rw [hnF]; have := hlb.1; omega
                              clear ho hb hF0 hnF hlb
                              go_wp2_with fail
                              refine hlf.mono ?_
                              rintro e17 w17 ⟨pF, cF, rfl, hof, _, hb17⟩
                              have hlx := (hof.mono HB16.out.size).leftX
                              obtain ⟨ns', hns'⟩ : ∃ ns', ns' = F0.map fun f => f.2.length := ⟨_, rfl⟩
                              rw [← hns'] at hlx
                              have hnl' : ns'.length = nF := by rw [hns', List.length_map, HLB.out.2]
                              have HNB' := Lib.hid (show ∀ (k : Nat) (h : k < ns'.length), ns'[k] ≤ 140737488351232 from fun k h => by
                                subst hns'
                                have h2 : k < F0.length := by simpa using h
                                rw [List.getElem_map]
                                exact (HLB.out.1.2 F0[k] (List.getElem_mem h2)).2)
                              have HB17 := Lib.hid (And.intro hlx (HB16.out.trans (hb17.mono HB16.out.size)))
                              clear hlf hof hb17 hlx hns'
                              go_wp2_with fail
                              go_loopw [28] (fun i wr => ∃ k2 : Nat, k2 ≤ nF ∧ i = .int .i64 k2 ∧ LeftX wr wx.heap.size w17.heap.size (.slice pF nF cF) ns' ∧ Below wx.heap.size wx wr) (fun i _ => nF - (intOf i).toNat)
                              case atStart => exact ⟨0, Nat.zero_le _, rfl, HB17.out.1, HB17.out.2⟩
                              case round =>
                                obtain ⟨k2, hk2, rfl, hlx, hb⟩ := hrel
                                by_cases hl2 : k2 < nF
                                · obtain ⟨g, c0, hpf, hgb⟩ := hlx.form (by omega)
                                  obtain ⟨rfl, rfl⟩ : pF = some ⟨g, 0, none⟩ ∧ cF = c0 := by injection hpf with e1 _ e2; exact ⟨e1, e2⟩
                                  have hkn : k2 < ns'.length := by omega
                                  obtain ⟨n0, hn0⟩ : ∃ n0, n0 = ns'[k2] := ⟨_, rfl⟩
                                  have HIN := Lib.hid (And.intro hlx (And.intro hb hn0))
                                  have hnb : n0 ≤ 140737488351232 := by rw [hn0]; exact HNB'.out k2 hkn
                                  obtain ⟨wp, hwp⟩ : ∃ x, x = wr := ⟨_, rfl⟩
                                  subst hwp
                                  clear hlx hb hpf hn0
                                  go_wp2_with fail
                                  go_loopw [29] (fun j wr => ∃ m : Nat, m ≤ n0 ∧ j = .int .i64 m ∧ LeftX wr wx.heap.size w17.heap.size (.slice (some ⟨g, 0, none⟩) nF cF) ns' ∧ Below wx.heap.size wx wr) (fun j _ => n0 - (intOf j).toNat)
                                  case atStart => exact ⟨0, Nat.zero_le _, rfl, HIN.out.1, HIN.out.2.1⟩
                                  case round =>
                                    obtain ⟨m, hmn, rfl, hlx, hb⟩ := hrel
                                    by_cases hml : m < n0
                                    · obtain ⟨gd, cd, cs', hcd, hgb', _, hgx, hall⟩ := hlx.dat hkn (by rw [← HIN.out.2.2]; omega)
                                      rw [← HIN.out.2.2] at hcd hall
                                      obtain ⟨⟨x, hcx⟩, hfr⟩ := hall m hml
                                      have hl2 := hlx.poke hgx m mk hm0 hm1
                                      have H2' := Lib.hid (And.intro hl2 (hb.setCell (p := ⟨gd, m, none⟩) hgb' (.int .u8 mk)))
                                      clear hlx hall hgx hl2 hb
                                      go_wp2_with fail
                                      go_roundw
                                      case rel => exact ⟨m + 1, by omega, by go_num, H2'.out.1, H2'.out.2⟩
                                      case measure => simp [intOf]; omega
                                    · obtain rfl : m = n0 := by omega
                                      obtain ⟨q', c', hcd⟩ := hlx.row hkn
                                      rw [← HIN.out.2.2] at hcd
                                      have H2' := Lib.hid (And.intro hlx hb)
                                      clear hlx hb
                                      go_wp2_with fail
                                      go_roundw
                                      case rel => exact ⟨k2 + 1, by omega, by go_num, H2'.out.1, H2'.out.2⟩
                                      case measure => simp [intOf]; omega
                                · obtain rfl : k2 = nF := by omega
                                  have H2' := Lib.hid (HT0.out.1.below hb)
                                  clear hlx hb
                                  go_wp2_with fail
                                  go_roundw
                                  case rel => exact ⟨k + 1, r', by omega, by go_num, by rw [HREL.out]; exact H2'.out⟩
                                  case measure => simp [intOf]; omega
              · obtain rfl : k = M.length := by omega
                have hAk1 := HGA.out M.length hkm
                have hAS := invS_run (M.take M.length) A0 (by rw [HA0E.out]; exact HA0.out.inv) (by rw [HA0E.out]; exact HIS.out)
                obtain ⟨A', hA'⟩ : ∃ A', A' = runA A0 (M.take M.length) := ⟨_, rfl⟩
                rw [← hA'] at hd hAk1 hAS
                obtain ⟨F0, hF0⟩ : ∃ F0, F0 = leftP A' 1073741824 [] := ⟨_, rfl⟩
                have hF0l : F0.length ≤ 140737488351232 := by rw [hF0]; have := (left_bounds hAk1 (by omega) 1073741824 []).1; omega
                have HLF0 := Lib.hid (fun W (h : TL w1 rb dd A' rr W) => (show Calls Tryd.prog 19 #[.pointer (some ⟨dd, 0, none⟩), .agg #[.int .i64 1073741824, .slice none 0 0]] W fun e w' => ∃ p c, e = .returned (.slice p F0.length c) ∧ InFs w' p F0 ∧ TL w1 rb dd A' rr w' ∧ Below W.heap.size W w' by rw [hF0]; exact h.left hAk1 (by omega) 1073741824 [] none 0 0 rfl (fun h => absurd h (by simp))))
                have HRL0 := Lib.hid (fun W (h : TL w1 rb dd A' rr W) => (show Calls Tryd.prog 28 #[.agg #[.slice rr.p1 A'.now.length rr.c1, .slice rr.p2 A'.safe.length rr.c2, .slice rr.p3 A'.pend.length rr.c3, .slice rr.p4 A'.files.length rr.c4, .slice rr.p5 A'.files.length rr.c5, .int .i64 (A'.room : Int), .slice rr.p6 A'.fails.length rr.c6, .int .i64 A'.power, .int .i64 (A'.steps : Int)], .agg #[.int .i64 1073741824, .slice none 0 0]] W fun e w' => ∃ p c, e = .returned (.slice p F0.length c) ∧ InFs w' p F0 ∧ TL w1 rb dd A' rr w' ∧ Below W.heap.size W w' by rw [hF0]; exact h.rleft hAk1 hAS (by omega) 1073741824 [] none 0 0 rfl (by omega) (fun h => absurd h (by simp))))
                have HSF0 := Lib.hid (fun W p q c d (h : TL w1 rb dd A' rr W) (h1 : InFs W p F0) (h2 : InFs W q F0) => h.sameFiles F0 p q c d hF0l h1 h2)
                obtain ⟨Ls, hLs⟩ : ∃ Ls, Ls = listP A' := ⟨_, rfl⟩
                have hLsl : Ls.length ≤ 4000000000000 := by rw [hLs]; exact listP_len hAk1 (by omega)
                have HLI := Lib.hid (fun W (h : TL w1 rb dd A' rr W) => (show Calls Tryd.prog 30 #[.pointer (some ⟨dd, 0, none⟩)] W fun e w' => ∃ p c, e = .returned (.slice p Ls.length c) ∧ InS w' p Ls ∧ TL w1 rb dd A' rr w' ∧ Below W.heap.size W w' by rw [hLs]; exact h.list hAk1 (by omega)))
                have HRLI := Lib.hid (fun W (h : TL w1 rb dd A' rr W) => (show Calls Tryd.prog 31 #[.agg #[.slice rr.p1 A'.now.length rr.c1, .slice rr.p2 A'.safe.length rr.c2, .slice rr.p3 A'.pend.length rr.c3, .slice rr.p4 A'.files.length rr.c4, .slice rr.p5 A'.files.length rr.c5, .int .i64 (A'.room : Int), .slice rr.p6 A'.fails.length rr.c6, .int .i64 A'.power, .int .i64 (A'.steps : Int)]] W fun e w' => ∃ p c, e = .returned (.slice p Ls.length c) ∧ InS w' p Ls ∧ TL w1 rb dd A' rr w' ∧ Below W.heap.size W w' by rw [hLs]; exact h.rlist hAk1 (by omega)))
                have HSX := Lib.hid (fun W p q c d (h : TL w1 rb dd A' rr W) (h1 : InS W p Ls) (h2 : InS W q Ls) => h.sameTexts Ls p q c d hLsl h1 h2)
                have HSS := Lib.hid (fun W (h : TL w1 rb dd A' rr W) => (show W.cell? ⟨rb, 0, none⟩ = some (.slice rr.p1 A'.now.length rr.c1) ∧ W.cell? ⟨rb, 1, none⟩ = some (.slice rr.p2 A'.safe.length rr.c2) ∧ W.cell? ⟨rb, 2, none⟩ = some (.slice rr.p3 A'.pend.length rr.c3) ∧ W.cell? ⟨rb, 3, none⟩ = some (.slice rr.p4 A'.files.length rr.c4) ∧ W.cell? ⟨rb, 4, none⟩ = some (.slice rr.p5 A'.files.length rr.c5) ∧ W.cell? ⟨rb, 5, none⟩ = some (.int .i64 (A'.room : Int)) ∧ W.cell? ⟨rb, 6, none⟩ = some (.slice rr.p6 A'.fails.length rr.c6) ∧ W.cell? ⟨rb, 7, none⟩ = some (.int .i64 A'.power) ∧ W.cell? ⟨rb, 8, none⟩ = some (.int .i64 (A'.steps : Int)) from h.cells))
                have HT := Lib.hid (show TL w1 rb dd A' rr (World.drew wr) from hd.below (Below.refl _ _).drew)
                have HEND := Lib.hid (fun W (h : TL w1 rb dd A' rr W) => (show Below w.heap.size w W from HG.out.2.trans (h.1.blw.mono HG.out.2.size)))
                clear hd hAk1 hAS hA' hF0 hF0l hLs hLsl hBw
                go_wp2_with fail
                go_region_held3 (fun W => W.cell? ⟨rb, 0, none⟩ = some (.slice rr.p1 A'.now.length rr.c1) ∧ W.cell? ⟨rb, 1, none⟩ = some (.slice rr.p2 A'.safe.length rr.c2) ∧ W.cell? ⟨rb, 2, none⟩ = some (.slice rr.p3 A'.pend.length rr.c3) ∧ W.cell? ⟨rb, 3, none⟩ = some (.slice rr.p4 A'.files.length rr.c4) ∧ W.cell? ⟨rb, 4, none⟩ = some (.slice rr.p5 A'.files.length rr.c5) ∧ W.cell? ⟨rb, 5, none⟩ = some (.int .i64 (A'.room : Int)) ∧ W.cell? ⟨rb, 6, none⟩ = some (.slice rr.p6 A'.fails.length rr.c6) ∧ W.cell? ⟨rb, 7, none⟩ = some (.int .i64 A'.power) ∧ W.cell? ⟨rb, 8, none⟩ = some (.int .i64 (A'.steps : Int)))
                  (first | (with_reducible exact HSS.out _ HT.out))
                  (first
                    | (go_at_call 19; with_reducible refine (HLF0.out _ HT.out).mono ?_; rintro e10 w10 ⟨p1, c1, rfl, hin, hk, hb⟩; have HT := Lib.hid hk; have HF1 := Lib.hid hin; (try have HF2 := Lib.hid (HF2.out.below hb)); clear hk hb hin)
                    | (go_at_call 28; with_reducible refine (HRL0.out _ HT.out).mono ?_; rintro e10 w10 ⟨p2, c2, rfl, hin, hk, hb⟩; have HT := Lib.hid hk; have HF2 := Lib.hid hin; (try have HF1 := Lib.hid (HF1.out.below hb)); clear hk hb hin)
                    | (go_at_call 27; with_reducible refine (HSF0.out _ _ _ _ _ HT.out HF1.out HF2.out).mono ?_; rintro e10 w10 ⟨rfl, hk, _⟩; have HT := Lib.hid hk; clear hk)
                    | (go_at_call 30; with_reducible refine (HLI.out _ HT.out).mono ?_; rintro e10 w10 ⟨p5, c5, rfl, hin, hk, hb⟩; have HT := Lib.hid hk; have HL1 := Lib.hid hin; (try have HL2 := Lib.hid (HL2.out.below hb)); clear hk hin hb)
                    | (go_at_call 31; with_reducible refine (HRLI.out _ HT.out).mono ?_; rintro e10 w10 ⟨p6, c6, rfl, hin, hk, hb⟩; have HT := Lib.hid hk; have HL2 := Lib.hid hin; (try have HL1 := Lib.hid (HL1.out.below hb)); clear hk hin hb)
                    | (go_at_call 29; with_reducible refine (HSX.out _ _ _ _ _ HT.out HL1.out HL2.out).mono ?_; rintro e10 w10 ⟨rfl, hk, _⟩; have HT := Lib.hid hk; clear hk))
                all_goals
                  go_wp2_with fail
                  go_ret
                  exact ⟨rfl, HEND.out _ HT.out⟩
end Go.Proofs.YtnhfnfdmpcpcoaaDoor
