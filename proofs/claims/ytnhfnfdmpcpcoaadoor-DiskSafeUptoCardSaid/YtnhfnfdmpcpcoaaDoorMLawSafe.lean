/-
  DiskSafe: what was synced, bytes and name, is left by every loss of power.
-/
import Derived.Test.YtnhfnfdmpcpcoaaDoorM9e
import Derived.Test.YtnhfnfdmpcpcoaaDoorM9f
namespace Go.Proofs.YtnhfnfdmpcpcoaaDoor
open Go.RowKit Go.Maps

/-- a disk that lies at or behind B, all below B as it was in w0, and none of it in the blocks N -/
def DPE (w0 : World) (N : Nat → Prop) (dd : Nat) (A : Pl) (W : World) : Prop := (∃ P, DiskP W P dd A ∧ (∀ g, P g → w0.heap.size ≤ g ∧ ¬ N g)) ∧ (∀ g, N g → g < W.heap.size) ∧ Below w0.heap.size w0 W
theorem DPE.dp {w0 W : World} {N : Nat → Prop} {dd : Nat} {A : Pl} (h : DPE w0 N dd A W) : DP w0 dd A W := by
  obtain ⟨⟨P, h1, h2⟩, _, h3⟩ := h
  exact ⟨P, h1, fun g hg => (h2 g hg).1, h3⟩
theorem DPE.below {w0 W w' : World} {N : Nat → Prop} {dd : Nat} {A : Pl} (h : DPE w0 N dd A W) (hb : Below W.heap.size W w') : DPE w0 N dd A w' := by
  obtain ⟨⟨P, h1, h2⟩, h3, h4⟩ := h
  exact ⟨⟨P, h1.below hb, h2⟩, fun g hg => Nat.lt_of_lt_of_le (h3 g hg) hb.size, h4.trans (hb.mono h4.size)⟩
/-- what was made behind the disk is none of it -/
theorem DP.apart {w0 W w' : World} {dd : Nat} {A : Pl} (h : DP w0 dd A W) (hb : Below W.heap.size W w') (N : Nat → Prop) (hN : ∀ g, N g → W.heap.size ≤ g ∧ g < w'.heap.size) : DPE w0 N dd A w' := by
  obtain ⟨P, h1, h2, h3⟩ := h
  refine ⟨⟨_, h1.shrink.below hb, fun g hg => ⟨h2 g hg.1, fun e => ?_⟩⟩, fun g hg => (hN g hg).2, h3.trans (hb.mono h3.size)⟩
  have := (hN g e).1
  have := hg.2
  omega
theorem DPE.step {w0 W w' : World} {N : Nat → Prop} {dd : Nat} {A : Pl} {o : Opp} {e : Ending} {P : Nat → Prop} (hb : Below w0.heap.size w0 W) (hP : ∀ g, P g → w0.heap.size ≤ g ∧ ¬ N g) (hN : ∀ g, N g → g < W.heap.size) (h : StepPost W P dd A o e w') :
    DPE w0 N dd (doP A o).1 w' ∧ ∀ g, N g → w'.heap[g]? = W.heap[g]? := by
  have hd := DP.step hb (fun g hg => (hP g hg).1) h
  obtain ⟨_, ⟨P', h2, h3⟩, h4⟩ := h
  obtain ⟨_, _, _, h5⟩ := hd
  refine ⟨⟨⟨P', h2, fun g hg => ?_⟩, fun g hg => Nat.lt_of_lt_of_le (hN g hg) h4.size, h5⟩, fun g hg => h4.block g (hN g hg) fun e => (hP g e).2 hg⟩
  rcases h3 g hg with h | h
  · exact hP g h
  · exact ⟨Nat.le_trans hb.size h, fun e => by have := hN g e; omega⟩
theorem append_dpe {w0 W : World} {N : Nat → Prop} {dd : Nat} {A : Pl} (h : DPE w0 N dd A W) (nm : ByteArray) (hnm : nm.size ≤ 140737488351232) (l : BS) (p : Option Addr) (n c : Nat) (hn : l.length = n) (hl : n ≤ 140737488351232) (hin : In8 W p l) (hfit : FitP A) :
    Calls Tryd.prog 13 #[.pointer (some ⟨dd, 0, none⟩), .string nm, .slice p n c] W fun e w' => ∃ z, e = .returned (.int .i64 z) ∧ z = (doP A (.append nm.data.toList l)).2 ∧ DPE w0 N dd (doP A (.append nm.data.toList l)).1 w' ∧ ∀ g, N g → w'.heap[g]? = W.heap[g]? := by
  obtain ⟨⟨P, h1, h2⟩, h3, h4⟩ := h
  exact (append_p h1 nm hnm l p n c hn hl hin hfit).mono fun e w' hp => ⟨_, hp.1, rfl, DPE.step h4 h2 h3 hp⟩
theorem create_dpe {w0 W : World} {N : Nat → Prop} {dd : Nat} {A : Pl} (h : DPE w0 N dd A W) (nm : ByteArray) (hnm : nm.size ≤ 140737488351232) (hfit : FitP A) :
    Calls Tryd.prog 12 #[.pointer (some ⟨dd, 0, none⟩), .string nm] W fun e w' => ∃ z, e = .returned (.int .i64 z) ∧ z = (doP A (.create nm.data.toList)).2 ∧ DPE w0 N dd (doP A (.create nm.data.toList)).1 w' ∧ ∀ g, N g → w'.heap[g]? = W.heap[g]? := by
  obtain ⟨⟨P, h1, h2⟩, h3, h4⟩ := h
  exact (create_p h1 nm hnm hfit).mono fun e w' hp => ⟨_, hp.1, rfl, DPE.step h4 h2 h3 hp⟩
theorem sync_dpe {w0 W : World} {N : Nat → Prop} {dd : Nat} {A : Pl} (h : DPE w0 N dd A W) (nm : ByteArray) (hnm : nm.size ≤ 140737488351232) (hfit : FitP A) :
    Calls Tryd.prog 15 #[.pointer (some ⟨dd, 0, none⟩), .string nm] W fun e w' => ∃ z, e = .returned (.int .i64 z) ∧ z = (doP A (.sync nm.data.toList)).2 ∧ DPE w0 N dd (doP A (.sync nm.data.toList)).1 w' ∧ ∀ g, N g → w'.heap[g]? = W.heap[g]? := by
  obtain ⟨⟨P, h1, h2⟩, h3, h4⟩ := h
  exact (sync_p h1 nm hnm hfit).mono fun e w' hp => ⟨_, hp.1, rfl, DPE.step h4 h2 h3 hp⟩
theorem names_dpe {w0 W : World} {N : Nat → Prop} {dd : Nat} {A : Pl} (h : DPE w0 N dd A W) (hfit : FitP A) :
    Calls Tryd.prog 16 #[.pointer (some ⟨dd, 0, none⟩)] W fun e w' => ∃ z, e = .returned (.int .i64 z) ∧ z = (doP A .names).2 ∧ DPE w0 N dd (doP A .names).1 w' ∧ ∀ g, N g → w'.heap[g]? = W.heap[g]? := by
  obtain ⟨⟨P, h1, h2⟩, h3, h4⟩ := h
  exact (names_p h1 hfit).mono fun e w' hp => ⟨_, hp.1, rfl, DPE.step h4 h2 h3 hp⟩

theorem OwnFs.at {w : World} {base n c : Nat} {p : Option Addr} {L : List FT} (h : OwnFs w base (.slice p n c) L) {k : Nat} (hk : k < L.length) :
    ∃ b, p = some ⟨b, 0, none⟩ ∧ ∃ (x : ByteArray) (q : Option Addr) (c' : Nat), w.cell? ⟨b, k * 2, none⟩ = some (.string x) ∧ w.cell? ⟨b, k * 2 + 1, none⟩ = some (.slice q L[k].2.length c') ∧ x.data.toList = L[k].1 ∧ L[k].2.length ≤ c' ∧ c' ≤ maxLen ∧ In8 w q L[k].2 := by
  obtain ⟨E, h1, h2, h3⟩ := h
  rcases h1.2 with ⟨e, hn⟩ | ⟨g, cap, cur, e, hb, hg, hnc, hcm, hcs, ht⟩
  · omega
  · injection e with e1 e2 e3
    subst e1
    obtain ⟨g1, g2⟩ := fc_get E k (by omega)
    have cell : ∀ j v, (fc E)[j]? = some v → w.cell? ⟨g, j, none⟩ = some v := fun j v hv => by
      rw [cell_of_row _ _ _ _ _ _ hg, ← Array.getElem?_toList]
      have hj : j < E.length * 2 := by rw [← fc_length]; exact (List.getElem?_eq_some_iff.1 hv).1
      rw [← ht, List.getElem?_take_of_lt hj] at hv
      exact hv
    obtain ⟨f1, f2⟩ := h3 k E[k] L[k] (List.getElem?_eq_getElem (by omega)) (List.getElem?_eq_getElem hk)
    obtain ⟨q, c', e4, m1, m2, m3⟩ := f2.in8
    rw [e4] at g2
    exact ⟨g, rfl, _, q, c', cell _ _ g1, cell _ _ g2, f1, m1, m2, m3⟩
theorem GoodA.mono {n m : Nat} {A : Pl} (h : GoodA n A) (hm : n ≤ m) : GoodA m A :=
  ⟨h.inv, ⟨by have := h.fit.steps; omega, by have := h.fit.pend; omega, by have := h.fit.now; omega, by have := h.fit.safe; omega, by have := h.fit.files; omega, h.fit.fails, h.fit.used, h.fit.room⟩, h.dat⟩
theorem In8.same {w w' : World} {p : Option Addr} {l : BS} (h : In8 w p l) (hs : ∀ g, (∃ a, p = some a ∧ a.block = g) → w'.heap[g]? = w.heap[g]?) : In8 w' p l := by
  intro h0
  obtain ⟨b, o, rfl, hc⟩ := h h0
  refine ⟨b, o, rfl, fun i hi => ?_⟩
  have := hc i hi
  unfold World.cell? at this ⊢
  rw [hs b ⟨_, rfl, rfl⟩]
  exact this

set_option maxRecDepth 100000 in
set_option maxHeartbeats 8000000 in
theorem diskSafe_walk (p : Option Addr) (F : List FT) (c : Nat) (room : Int) (q : Option Addr) (Z : List Int) (e : Nat) (power : Int) (nm : ByteArray) (D : BS) (dp : Option Addr) (dc : Nat) (mp : Option Addr) (Ms : List BS) (mc : Nat) (fn : Int) (fp : Option Addr) (K : List Int) (fc : Nat) (w : World)
    (hF : InFs w p F) (hZ : InV w q (Z.map (Value.int .i64))) (hk : bulkFs F + Z.length ≤ 1048576) (hnm : nm.data.toList.length ≤ 1048576) (hD : In8 w dp D) (_ : D.length ≤ dc) (hDl : D.length ≤ 1048576) (hMs : InBs w mp Ms) (hMk : bulkBs Ms ≤ 1048576) (hK : InV w fp (K.map (Value.int .i64))) (hkK : K.length ≤ 1048576) :
    Calls Tryd.prog 3 #[.agg #[.slice p F.length c, .int .i64 room, .slice q Z.length e, .int .i64 power], .string nm, .slice dp D.length dc, .slice mp Ms.length mc, .agg #[.int .i64 fn, .slice fp K.length fc]] w fun e w' => e = .returned (.bool true) ∧ Below w.heap.size w w' := by
  have hFl := bulkFs_length F
  have hFn : ∀ f ∈ F, f.1.length ≤ 140737488351232 ∧ f.2.length ≤ 140737488351232 := fun f hf => by have := bulkFs_mem F f hf; omega
  rw [size_list] at hnm
  go_enter Tryd.func3, Tryd.ntmps3
  go_wp2_with fail
  refine (alive9_any _).mono ?_
  rintro e w1 ⟨rfl, hb1⟩
  have hb0 : Below w.heap.size w ((w.alloc (.cells #[.slice p F.length c, .int .i64 room, .slice q Z.length e, .int .i64 power] 25)).alloc (.cells #[.int .i64 fn, .slice fp K.length fc] 29)) := ((Below.refl _ w).alloc (Nat.le_refl _) _).alloc (by simp) _
  have g0 : w1.heap[w.heap.size]? = some (.cells #[.slice p F.length c, .int .i64 room, .slice q Z.length e, .int .i64 power] 25 (0, 0)) :=
    (hb1.block _ (by simp; omega)).trans ((heap_alloc_old _ _ (by simp)).trans (heap_alloc_new w _))
  have g1 : w1.heap[w.heap.size + 1]? = some (.cells #[.int .i64 fn, .slice fp K.length fc] 29 (0, 0)) := by
    have := heap_alloc_new (w.alloc (.cells #[.slice p F.length c, .int .i64 room, .slice q Z.length e, .int .i64 power] 25)) (.cells #[.int .i64 fn, .slice fp K.length fc] 29)
    rw [World.size_alloc] at this
    exact (hb1.block _ (by simp)).trans this
  have hB1 : Below w.heap.size w w1 := hb0.trans (hb1.mono (by simp; omega))
  clear hb0 hb1
  have a2 : w1.cell? ⟨w.heap.size, 2, none⟩ = some (.slice q Z.length e) := by rw [cell_of_row _ _ _ _ _ _ g0]; rfl
  have a3 : w1.cell? ⟨w.heap.size, 3, none⟩ = some (.int .i64 power) := by rw [cell_of_row _ _ _ _ _ _ g0]; rfl
  have af := fun i => frozen_of_row w1 w.heap.size i _ _ g0
  obtain ⟨wx, hwx⟩ : ∃ x, x = (w1.setCell ⟨w.heap.size, 2, none⟩ (.slice none 0 0)).setCell ⟨w.heap.size, 3, none⟩ (.int .i64 (-1)) := ⟨_, rfl⟩
  have k0 : wx.heap[w.heap.size]? = some (.cells #[.slice p F.length c, .int .i64 room, .slice none 0 0, .int .i64 (-1)] 25 (0, 0)) := by
    rw [hwx]
    exact heap_setCell_same _ _ _ _ _ _ (heap_setCell_same _ _ _ _ _ _ g0)
  have k1 : wx.heap[w.heap.size + 1]? = some (.cells #[.int .i64 fn, .slice fp K.length fc] 29 (0, 0)) := by
    rw [hwx]
    exact (heap_setCell_other _ _ _ _ (by simp)).trans ((heap_setCell_other _ _ _ _ (by simp)).trans g1)
  have hBx : Below w.heap.size w wx := by
    rw [hwx]
    exact (hB1.setCell (p := ⟨w.heap.size, 2, none⟩) (Nat.le_refl _) _).setCell (p := ⟨w.heap.size, 3, none⟩) (Nat.le_refl _) _
  have b0 : wx.cell? ⟨w.heap.size, 0, none⟩ = some (.slice p F.length c) := by rw [cell_of_row _ _ _ _ _ _ k0]; rfl
  have b1 : wx.cell? ⟨w.heap.size, 1, none⟩ = some (.int .i64 room) := by rw [cell_of_row _ _ _ _ _ _ k0]; rfl
  have b2 : wx.cell? ⟨w.heap.size, 2, none⟩ = some (.slice none 0 0) := by rw [cell_of_row _ _ _ _ _ _ k0]; rfl
  have b3 : wx.cell? ⟨w.heap.size, 3, none⟩ = some (.int .i64 (-1)) := by rw [cell_of_row _ _ _ _ _ _ k0]; rfl
  have hbeg := begin_c F p _ c rfl room [] none 0 0 rfl (-1) wx (hF.below hBx) (fun h => absurd h (by simp)) (by omega) hFn (by simp)
  have HG := Lib.hid (And.intro k0 (And.intro k1 hBx))
  rw [hwx] at b0 b1 b2 b3 hbeg
  have HWX := Lib.hid hwx
  clear g0 g1 hB1 k0 k1 hBx hwx
  go_wp2_with fail
  refine hbeg.mono ?_
  rintro e2 w2 ⟨⟨hne, rfl⟩ | ⟨hE, dd, P, rfl, hd, hP⟩, hb2⟩
  · rw [← HWX.out] at hb2
    obtain ⟨z, hz⟩ : ∃ z, z = newE F room := ⟨_, rfl⟩
    rw [← hz] at hne ⊢
    have q1 : (z == 0) = false := beq_eq_false_iff_ne.2 hne
    have q2 : (z != 0) = true := by simp [bne, q1]
    have HB := Lib.hid (HG.out.2.2.trans (hb2.mono HG.out.2.2.size))
    clear hbeg hne hb2 hz
    go_wp2_with fail
    go_ret
    exact ⟨rfl, HB.out⟩
  rw [← HWX.out] at hb2 hP
  clear hbeg
  have hD0 : DPE wx (fun _ => False) dd (newP F room [] (-1)) w2 := ⟨⟨P, hd, fun g hg => ⟨hP g hg, id⟩⟩, fun g hg => hg.elim, hb2⟩
  have hA0 : GoodA 0 (newP F room [] (-1)) := GoodA.new (-1) hE (by simp; omega)
  have hpow0 : (newP F room [] (-1)).power = -1 := rfl
  obtain ⟨A0, hA0e⟩ : ∃ A0, A0 = newP F room [] (-1) := ⟨_, rfl⟩
  rw [← hA0e] at hD0 hA0 hpow0
  have hcr := create_dpe hD0 nm (by omega) (hA0.fitP (by omega))
  have HA0 := Lib.hid (And.intro hA0 hpow0)
  clear hd hP hE hD0 hA0 hb2 hpow0 hA0e b0 b1 b2 b3 a2 a3 af
  go_wp2_with fail
  refine hcr.mono ?_
  rintro e3 w3 ⟨z3, rfl, _, hd3, _⟩
  clear hcr
  have hA1 := HA0.out.1.step (.create nm.data.toList)
  have hpow1 : (doP A0 (.create nm.data.toList)).1.power = -1 := ((do_rest A0 _).2.2).trans HA0.out.2
  obtain ⟨A1, hA1e⟩ : ∃ A1, A1 = (doP A0 (.create nm.data.toList)).1 := ⟨_, rfl⟩
  rw [← hA1e] at hd3 hA1 hpow1
  have hcb := copyBytes_any D dp _ dc rfl (by omega) w3 (hD.below (HG.out.2.2.trans (hd3.2.2.mono HG.out.2.2.size)))
  have HA1 := Lib.hid (And.intro hA1 hpow1)
  have HD3 := Lib.hid hd3
  clear hd3 hA1 hpow1 hA1e
  go_wp2_with fail
  refine hcb.mono ?_
  rintro e4 w4 ⟨v4, rfl, hown4, hb4⟩
  clear hcb
  obtain ⟨p4, c4, rfl, _, _, hin4⟩ := hown4.in8n rfl
  have hap := append_dpe (HD3.out.below hb4) nm (by omega) D p4 _ c4 rfl (by omega) hin4 (HA1.out.1.fitP (by omega))
  clear hown4 hin4 hb4
  go_wp2_with fail
  refine hap.mono ?_
  rintro e5 w5 ⟨z5, rfl, _, hd5, _⟩
  clear hap
  have hA2 := HA1.out.1.step (.append nm.data.toList D)
  have hpow2 : (doP A1 (.append nm.data.toList D)).1.power = -1 := ((do_rest A1 _).2.2).trans HA1.out.2
  obtain ⟨A2, hA2e⟩ : ∃ A2, A2 = (doP A1 (.append nm.data.toList D)).1 := ⟨_, rfl⟩
  rw [← hA2e] at hd5 hA2 hpow2
  have hsy := sync_dpe hd5 nm (by omega) (hA2.fitP (by omega))
  have HA2 := Lib.hid (And.intro hA2 hpow2)
  clear hd5 hA2 hpow2 hA2e
  go_wp2_with fail
  refine hsy.mono ?_
  rintro e6 w6 ⟨z6, rfl, hz6, hd6, _⟩
  clear hsy
  by_cases h6 : z6 = 0
  · subst h6
    have hna := names_dpe hd6 ((HA2.out.1.step (.sync nm.data.toList)).fitP (by omega))
    have HZ6 := Lib.hid hz6
    clear hd6 hz6
    go_wp2_with fail
    refine hna.mono ?_
    rintro e7 w7 ⟨z7, rfl, hz7, hd7, _⟩
    clear hna
    by_cases h7 : z7 = 0
    · subst h7
      have hA4 := (HA2.out.1.step (.sync nm.data.toList)).step .names
      obtain ⟨i0, hsf, hre⟩ := safe_start HA2.out.1.inv HA2.out.2 nm.data.toList HZ6.out.symm hz7.symm
      obtain ⟨A4, hA4e⟩ : ∃ A4, A4 = (doP (doP A2 (.sync nm.data.toList)).1 .names).1 := ⟨_, rfl⟩
      rw [← hA4e] at hd7 hA4 hsf hre
      have hrd := read_dp hd7.dp hA4 (by omega) nm (by omega)
      rw [hre] at hrd
      have hrl := readP_len hA4 nm.data.toList
      obtain ⟨R, hR⟩ : ∃ R, R = readP A4 nm.data.toList := ⟨_, rfl⟩
      rw [← hR] at hrd hsf hrl
      have H4 := Lib.hid (And.intro hd7 (And.intro hA4 hsf))
      clear hz7 hd7 hA4 hsf hre hR hA4e
      go_wp2_with fail
      refine hrd.mono ?_
      rintro e8 w8 ⟨ph, ch, rfl, hinh, hch, hcm, hph, hownh, hb8⟩
      clear hrd
      have hlt8 := fun (a : Addr) (ha : ph = some a) => (show a.block < w8.heap.size from by
        subst ha
        exact (World.ownsRow.lt hownh a.block rfl).2)
      have hd8 := H4.out.1.dp.apart hb8 (fun g => ∃ a, ph = some a ∧ a.block = g) (fun g ⟨a, ha, hg⟩ => by subst hg; exact ⟨hph a ha, hlt8 a ha⟩)
      obtain ⟨n, hn⟩ : ∃ n, n = R.length := ⟨_, rfl⟩
      have HN := Lib.hid hn
      rw [← hn] at hch hrl
      rw [← hn]
      have hmb := fun W (hb : Below w.heap.size w W) => hMs.below hb
      have H8 := Lib.hid (And.intro hd8 hinh)
      clear hn hd8 hinh hph hownh hb8 hlt8
      go_wp2_with fail
      go_loopw [14] (fun i wr => ∃ (k : Nat) (A : Pl), k ≤ Ms.length ∧ k ≤ 50 ∧ i = .int .i64 k ∧ DPE wx (fun g => ∃ a, ph = some a ∧ a.block = g) dd A wr ∧ SafeI nm.data.toList i0 R A ∧ GoodA (4 + 2 * k) A ∧ In8 wr ph R) (fun i _ => Ms.length - (intOf i).toNat)
      case atStart => exact ⟨0, A4, Nat.zero_le _, Nat.zero_le _, rfl, H8.out.1, H4.out.2.2, H4.out.2.1, H8.out.2⟩
      case round =>
        obtain ⟨k, A, hk1, hk50, rfl, hd, hsf, hGA, hinR⟩ := hrel
        by_cases hlt : k < Ms.length
        · by_cases hl50 : k < 50
          · have hBw := HG.out.2.2.trans (hd.2.2.mono HG.out.2.2.size)
            obtain ⟨b, o, rfl, q1, c1, hcx, hin1⟩ := (hmb wr hBw) k hlt
            have hml := bulkBs_mem Ms _ (List.getElem_mem hlt)
            obtain ⟨l, hl⟩ : ∃ l, l = Ms[k] := ⟨_, rfl⟩
            rw [← hl] at hcx hin1 hml
            have hcb := copyBytes_any l q1 _ c1 rfl (by omega) wr hin1
            have H9 := Lib.hid (And.intro hd (And.intro hsf (And.intro hGA hinR)))
            clear hd hsf hGA hinR hBw hin1 hl
            go_wp2_with fail
            refine hcb.mono ?_
            rintro e10 w10 ⟨v10, rfl, hown10, hb10⟩
            clear hcb
            obtain ⟨p10, c10, rfl, _, _, hin10⟩ := hown10.in8n rfl
            have hap := append_dpe (H9.out.1.below hb10) nm (by omega) l p10 _ c10 rfl (by omega) hin10 (H9.out.2.2.1.fitP (by omega))
            have HI10 := Lib.hid (H9.out.2.2.2.below hb10)
            clear hown10 hin10 hb10 hcx
            go_wp2_with fail
            refine hap.mono ?_
            rintro e11 w11 ⟨z11, rfl, _, hd11, hs11⟩
            clear hap
            have H11 := Lib.hid (And.intro hd11 (And.intro (H9.out.2.1.append nm.data.toList l) (And.intro (H9.out.2.2.1.step (.append nm.data.toList l)) (HI10.out.same hs11))))
            clear hd11 hs11
            by_cases h3 : k % 3 = 1
            · have hr : ((k : Int).tmod 3 == 1) = true := by
                rw [beq_iff_eq, Int.tmod_eq_emod_of_nonneg (by omega)]
                omega
              have hsh := show_any k w11 (by omega)
              have hsl := showT_len k (by omega)
              obtain ⟨sb, hsb⟩ : ∃ sb : ByteArray, sb = ⟨(showT k).toArray⟩ := ⟨_, rfl⟩
              have hss : sb.size ≤ 10 := by rw [hsb]; exact hsl
              rw [← hsb] at hsh
              clear hsb hsl
              go_wp2_with fail
              refine hsh.mono ?_
              rintro e12 w12 ⟨rfl, hb12⟩
              clear hsh
              have hcr := create_dpe (H11.out.1.below hb12) ((⟨#[101, 120, 116, 114, 97]⟩ : ByteArray) ++ sb) (by have e5 : (⟨#[101, 120, 116, 114, 97]⟩ : ByteArray).size = 5 := rfl; rw [ByteArray.size_append, e5]; omega) (H11.out.2.2.1.fitP (by omega))
              have HI12 := Lib.hid (H11.out.2.2.2.below hb12)
              clear hb12
              go_wp2_with fail
              refine hcr.mono ?_
              rintro e13 w13 ⟨z13, rfl, _, hd13, hs13⟩
              clear hcr
              have H13 := Lib.hid (And.intro hd13 (And.intro (H11.out.2.1.create (((⟨#[101, 120, 116, 114, 97]⟩ : ByteArray) ++ sb).data.toList)) (And.intro (H11.out.2.2.1.step (.create (((⟨#[101, 120, 116, 114, 97]⟩ : ByteArray) ++ sb).data.toList))) (HI12.out.same hs13))))
              clear hd13 hs13
              go_wp2_with fail
              go_roundw
              case rel => exact ⟨k + 1, _, by omega, by omega, by go_num, H13.out.1, H13.out.2.1, H13.out.2.2.1.mono (by omega), H13.out.2.2.2⟩
              case measure => simp [intOf]; omega
            · have hr : ((k : Int).tmod 3 == 1) = false := by
                rw [beq_eq_false_iff_ne, Int.tmod_eq_emod_of_nonneg (by omega)]
                omega
              go_wp2_with fail
              go_roundw
              case rel => exact ⟨k + 1, _, by omega, by omega, by go_num, H11.out.1, H11.out.2.1, H11.out.2.2.1.mono (by omega), H11.out.2.2.2⟩
              case measure => simp [intOf]; omega
          · obtain rfl : k = 50 := by omega
            clear hl50
            have hBw := HG.out.2.2.trans (hd.2.2.mono HG.out.2.2.size)
            have k1 := (hd.2.2.block _ (lt_of_heap HG.out.2.1)).trans HG.out.2.1
            have b0 : wr.cell? ⟨w.heap.size + 1, 0, none⟩ = some (.int .i64 fn) := by rw [cell_of_row _ _ _ _ _ _ k1]; rfl
            have b1 : wr.cell? ⟨w.heap.size + 1, 1, none⟩ = some (.slice fp K.length fc) := by rw [cell_of_row _ _ _ _ _ _ k1]; rfl
            have hcf := copyFate_any fn K fp _ fc rfl (by omega) wr (hK.below hBw)
            have H9 := Lib.hid (And.intro hd (And.intro hsf (And.intro hGA (And.intro hinR hBw))))
            clear hd hsf hGA hinR hBw k1
            go_wp2_with fail
            refine hcf.mono ?_
            rintro e20 w20 ⟨p20, c20, rfl, hin20, _, hb20⟩
            clear hcf
            have hlf := left_dp (H9.out.1.dp.below hb20) H9.out.2.2.1 (by omega) fn K p20 _ c20 rfl hin20
            have hTb := left_bounds H9.out.2.2.1 (by omega) fn K
            obtain ⟨hT1, hT2⟩ := H9.out.2.1.left fn K
            obtain ⟨T, hT⟩ : ∃ T, T = leftP A fn K := ⟨_, rfl⟩
            rw [← hT] at hlf hTb hT1 hT2
            have HB20 := Lib.hid hb20
            have HT := Lib.hid (And.intro hT1 (And.intro hT2 hTb))
            have hTl := hTb.1
            clear hT hT1 hT2 hTb hin20 hb20 b0 b1
            go_wp2_with fail
            refine hlf.mono ?_
            rintro e21 w21 ⟨p21, c21, rfl, hown21, _, hb21⟩
            clear hlf
            have hb921 := HB20.out.trans (hb21.mono HB20.out.size)
            have H21 := Lib.hid (And.intro hown21 (And.intro (H9.out.2.2.2.1.below hb921) (H9.out.2.2.2.2.trans (hb921.mono H9.out.2.2.2.2.size))))
            obtain ⟨wo, hwo⟩ : ∃ x, x = wr := ⟨_, rfl⟩
            subst hwo
            clear hown21 hb21 hb921
            go_wp2_with fail
            go_loopw [16] (fun i wr => ∃ j : Nat, j ≤ T.length ∧ i = .int .i64 j ∧ (∀ x ∈ T.take j, x.1 ≠ nm.data.toList) ∧ Below w21.heap.size w21 wr) (fun i _ => T.length - (intOf i).toNat)
            case atStart => exact ⟨0, Nat.zero_le _, rfl, (fun x hx => by simp at hx), Below.refl _ _⟩
            case round =>
              obtain ⟨j, hj, rfl, hno, hb⟩ := hrel
              by_cases hjl : j < T.length
              · obtain ⟨g, rfl, x, q2, c2, cx1, cx2, hx, hxc, hxm, hxi⟩ := H21.out.1.at hjl
                have d1 := cell_keep cx1 hb
                have d2 := cell_keep cx2 hb
                have hxi2 := hxi.below hb
                by_cases heq : x.data.toList = nm.data.toList
                · have hbool : (x.toList == nm.toList) = true := by rw [strs_eq]; simp [heq]
                  have hpre := HT.out.2.1 T[j] (List.getElem_mem hjl) (hx.symm.trans heq)
                  obtain ⟨l, hl⟩ : ∃ l, l = T[j].2 := ⟨_, rfl⟩
                  rw [← hl] at cx2 d2 hxc hxi2 hpre
                  have hle := hpre.length_le
                  rw [← HN.out] at hle
                  have htk : l.take n = R := by rw [HN.out]; exact (List.prefix_iff_eq_take.1 hpre).symm
                  have hcut := hxi2.take n
                  rw [htk] at hcut
                  have i1 : (n : Int) ≤ (l.length : Int) := by omega
                  have i2 : (n : Int) ≤ (c2 : Int) := by omega
                  have i3 : n ≤ c2 := by omega
                  have hsb := sameBytes_any R R q2 ph n c2 n ch HN.out.symm HN.out.symm (by unfold maxLen; omega) (by unfold maxLen; omega) wr hcut (H21.out.2.1.below hb)
                  rw [decide_eq_true rfl] at hsb
                  have HSB := Lib.hid hsb
                  have HB := Lib.hid (H21.out.2.2.trans (hb.mono H21.out.2.2.size))
                  clear hsb hcut htk hpre hl cx1 cx2 hx hxi hxi2 hno hb heq
                  go_wp2_with fail
                  refine HSB.out.mono ?_
                  rintro e22 w22 ⟨rfl, hb22⟩
                  have HB22 := Lib.hid (HB.out.trans (hb22.mono HB.out.size))
                  clear hb22
                  go_wp2_with fail
                  go_ret
                  exact ⟨rfl, HB22.out⟩
                · have hbool : (x.toList == nm.toList) = false := by rw [strs_eq]; simp [heq]
                  have HNO := Lib.hid (show ∀ y ∈ T.take (j + 1), y.1 ≠ nm.data.toList from fun y hy => by
                    rw [takes hjl, List.mem_append, List.mem_singleton] at hy
                    rcases hy with hy | rfl
                    · exact hno y hy
                    · rw [← hx]; exact heq)
                  clear hno heq hxi2 hxi hx
                  go_wp2_with fail
                  go_roundw
                  case rel => exact ⟨j + 1, by omega, by go_num, HNO.out, hb⟩
                  case measure => simp [intOf]; omega
              · obtain rfl : j = T.length := by omega
                rw [List.take_length] at hno
                obtain ⟨y, hy, hye⟩ := HT.out.1
                exact absurd hye (hno y hy)
        · obtain rfl : k = Ms.length := by omega
          have hBw := HG.out.2.2.trans (hd.2.2.mono HG.out.2.2.size)
          have k1 := (hd.2.2.block _ (lt_of_heap HG.out.2.1)).trans HG.out.2.1
          have b0 : wr.cell? ⟨w.heap.size + 1, 0, none⟩ = some (.int .i64 fn) := by rw [cell_of_row _ _ _ _ _ _ k1]; rfl
          have b1 : wr.cell? ⟨w.heap.size + 1, 1, none⟩ = some (.slice fp K.length fc) := by rw [cell_of_row _ _ _ _ _ _ k1]; rfl
          have hcf := copyFate_any fn K fp _ fc rfl (by omega) wr (hK.below hBw)
          have H9 := Lib.hid (And.intro hd (And.intro hsf (And.intro hGA (And.intro hinR hBw))))
          clear hd hsf hGA hinR hBw k1
          go_wp2_with fail
          refine hcf.mono ?_
          rintro e20 w20 ⟨p20, c20, rfl, hin20, _, hb20⟩
          clear hcf
          have hlf := left_dp (H9.out.1.dp.below hb20) H9.out.2.2.1 (by omega) fn K p20 _ c20 rfl hin20
          have hTb := left_bounds H9.out.2.2.1 (by omega) fn K
          obtain ⟨hT1, hT2⟩ := H9.out.2.1.left fn K
          obtain ⟨T, hT⟩ : ∃ T, T = leftP A fn K := ⟨_, rfl⟩
          rw [← hT] at hlf hTb hT1 hT2
          have HB20 := Lib.hid hb20
          have HT := Lib.hid (And.intro hT1 (And.intro hT2 hTb))
          have hTl := hTb.1
          clear hT hT1 hT2 hTb hin20 hb20 b0 b1
          go_wp2_with fail
          refine hlf.mono ?_
          rintro e21 w21 ⟨p21, c21, rfl, hown21, _, hb21⟩
          clear hlf
          have hb921 := HB20.out.trans (hb21.mono HB20.out.size)
          have H21 := Lib.hid (And.intro hown21 (And.intro (H9.out.2.2.2.1.below hb921) (H9.out.2.2.2.2.trans (hb921.mono H9.out.2.2.2.2.size))))
          obtain ⟨wo, hwo⟩ : ∃ x, x = wr := ⟨_, rfl⟩
          subst hwo
          clear hown21 hb21 hb921
          go_wp2_with fail
          go_loopw [16] (fun i wr => ∃ j : Nat, j ≤ T.length ∧ i = .int .i64 j ∧ (∀ x ∈ T.take j, x.1 ≠ nm.data.toList) ∧ Below w21.heap.size w21 wr) (fun i _ => T.length - (intOf i).toNat)
          case atStart => exact ⟨0, Nat.zero_le _, rfl, (fun x hx => by simp at hx), Below.refl _ _⟩
          case round =>
            obtain ⟨j, hj, rfl, hno, hb⟩ := hrel
            by_cases hjl : j < T.length
            · obtain ⟨g, rfl, x, q2, c2, cx1, cx2, hx, hxc, hxm, hxi⟩ := H21.out.1.at hjl
              have d1 := cell_keep cx1 hb
              have d2 := cell_keep cx2 hb
              have hxi2 := hxi.below hb
              by_cases heq : x.data.toList = nm.data.toList
              · have hbool : (x.toList == nm.toList) = true := by rw [strs_eq]; simp [heq]
                have hpre := HT.out.2.1 T[j] (List.getElem_mem hjl) (hx.symm.trans heq)
                obtain ⟨l, hl⟩ : ∃ l, l = T[j].2 := ⟨_, rfl⟩
                rw [← hl] at cx2 d2 hxc hxi2 hpre
                have hle := hpre.length_le
                rw [← HN.out] at hle
                have htk : l.take n = R := by rw [HN.out]; exact (List.prefix_iff_eq_take.1 hpre).symm
                have hcut := hxi2.take n
                rw [htk] at hcut
                have i1 : (n : Int) ≤ (l.length : Int) := by omega
                have i2 : (n : Int) ≤ (c2 : Int) := by omega
                have i3 : n ≤ c2 := by omega
                have hsb := sameBytes_any R R q2 ph n c2 n ch HN.out.symm HN.out.symm (by unfold maxLen; omega) (by unfold maxLen; omega) wr hcut (H21.out.2.1.below hb)
                rw [decide_eq_true rfl] at hsb
                have HSB := Lib.hid hsb
                have HB := Lib.hid (H21.out.2.2.trans (hb.mono H21.out.2.2.size))
                clear hsb hcut htk hpre hl cx1 cx2 hx hxi hxi2 hno hb heq
                go_wp2_with fail
                refine HSB.out.mono ?_
                rintro e22 w22 ⟨rfl, hb22⟩
                have HB22 := Lib.hid (HB.out.trans (hb22.mono HB.out.size))
                clear hb22
                go_wp2_with fail
                go_ret
                exact ⟨rfl, HB22.out⟩
              · have hbool : (x.toList == nm.toList) = false := by rw [strs_eq]; simp [heq]
                have HNO := Lib.hid (show ∀ y ∈ T.take (j + 1), y.1 ≠ nm.data.toList from fun y hy => by
                  rw [takes hjl, List.mem_append, List.mem_singleton] at hy
                  rcases hy with hy | rfl
                  · exact hno y hy
                  · rw [← hx]; exact heq)
                clear hno heq hxi2 hxi hx
                go_wp2_with fail
                go_roundw
                case rel => exact ⟨j + 1, by omega, by go_num, HNO.out, hb⟩
                case measure => simp [intOf]; omega
            · obtain rfl : j = T.length := by omega
              rw [List.take_length] at hno
              obtain ⟨y, hy, hye⟩ := HT.out.1
              exact absurd hye (hno y hy)
    · have q6 : (z7 == 0) = false := beq_eq_false_iff_ne.2 h7
      have q7 : (z7 != 0) = true := by simp [bne, q6]
      have HB7 := Lib.hid (HG.out.2.2.trans (hd7.2.2.mono HG.out.2.2.size))
      clear hz7 hd7 h7
      go_wp2_with fail
      go_ret
      exact ⟨rfl, HB7.out⟩
  · have q6 : (z6 == 0) = false := beq_eq_false_iff_ne.2 h6
    have q7 : (z6 != 0) = true := by simp [bne, q6]
    have HB6 := Lib.hid (HG.out.2.2.trans (hd6.2.2.mono HG.out.2.2.size))
    clear hz6 hd6 h6
    go_wp2_with fail
    go_ret
    exact ⟨rfl, HB6.out⟩
end Go.Proofs.YtnhfnfdmpcpcoaaDoor
