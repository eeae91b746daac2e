/-
  VaryMatches: every Matches answers what the document says.
-/
import Derived.Test.YtnibecboimgljaaDoorAlive17
import Derived.Test.YtnibecboimgljaaDoorMatches
import Derived.Test.YtnibecboimgljaaDoorEntryOpen
namespace Go.Proofs.YtnibecboimgljaaDoor
open Go.RowKit

theorem cell_drew (w : World) (a : Addr) : w.drew.cell? a = w.cell? a := rfl

set_option maxRecDepth 100000 in
set_option maxHeartbeats 16000000 in
theorem varyMatches_walk (k va : ByteArray) (st : Int) (rs : ByteArray) (mi : Int) (p : Option Addr) (L : List Pair) (c : Nat) (x : Option Addr) (l : List UInt8) (y : Nat) (a g : Int) (A : List Pair) (pa : Option Addr) (ca : Nat) (w : World)
    (hin : In2 w p L) (h8 : In8 w x l) (hk : k.size + va.size + rs.size + bulkF L + l.length ≤ 1048576) (hA : In2 w pa A) (hkA : bulkF A ≤ 1048576) :
    Calls Tryd.prog 7 #[.agg #[.string k, .string va, .int .i64 st, .string rs, .int .i64 mi, .slice p L.length c, .slice x l.length y, .int .i64 a, .int .i64 g], .slice pa A.length ca] w fun e w' => e = .returned (.bool true) ∧ Below w.heap.size w w' := by
  have hll := bulkF_length L
  have hlA := bulkF_length A
  have hb0 := (Below.refl w.heap.size w).alloc (Nat.le_refl _) (.cells #[.string k, .string va, .int .i64 st, .string rs, .int .i64 mi, .slice p L.length c, .slice x l.length y, .int .i64 a, .int .i64 g] 41)
  have ha0 := heap_alloc_new w (.cells #[.string k, .string va, .int .i64 st, .string rs, .int .i64 mi, .slice p L.length c, .slice x l.length y, .int .i64 a, .int .i64 g] 41)
  go_enter Tryd.func7, Tryd.ntmps7
  go_wp2_with fail
  refine (alive17_any _).mono ?_
  rintro e w1 ⟨rfl, hb1⟩
  have hB1 := hb0.trans (hb1.mono (by simp))
  have hs1 := hB1.size
  have hsw1 : w.heap.size < w1.heap.size := by have := hb1.size; simp at this; omega
  have hg1 := (hb1.block w.heap.size (by simp)).trans ha0
  have c0 : w1.cell? ⟨w.heap.size, 0, none⟩ = some (.string k) := by rw [cell_of_row _ _ _ _ _ _ hg1]; rfl
  have c1 : w1.cell? ⟨w.heap.size, 1, none⟩ = some (.string va) := by rw [cell_of_row _ _ _ _ _ _ hg1]; rfl
  have c2 : w1.cell? ⟨w.heap.size, 2, none⟩ = some (.int .i64 st) := by rw [cell_of_row _ _ _ _ _ _ hg1]; rfl
  have c3 : w1.cell? ⟨w.heap.size, 3, none⟩ = some (.string rs) := by rw [cell_of_row _ _ _ _ _ _ hg1]; rfl
  have c4 : w1.cell? ⟨w.heap.size, 4, none⟩ = some (.int .i64 mi) := by rw [cell_of_row _ _ _ _ _ _ hg1]; rfl
  have c5 : w1.cell? ⟨w.heap.size, 5, none⟩ = some (.slice p L.length c) := by rw [cell_of_row _ _ _ _ _ _ hg1]; rfl
  have c6 : w1.cell? ⟨w.heap.size, 6, none⟩ = some (.slice x l.length y) := by rw [cell_of_row _ _ _ _ _ _ hg1]; rfl
  have c7 : w1.cell? ⟨w.heap.size, 7, none⟩ = some (.int .i64 a) := by rw [cell_of_row _ _ _ _ _ _ hg1]; rfl
  have c8 : w1.cell? ⟨w.heap.size, 8, none⟩ = some (.int .i64 g) := by rw [cell_of_row _ _ _ _ _ _ hg1]; rfl
  go_wp2_with fail
  refine (copyEntry_any k va st rs mi a g L p _ c rfl (by omega) l x _ y rfl (by omega) w1 (hin.below hB1) (h8.below hB1)).mono ?_
  rintro e w2 ⟨v1, v2, rfl, hownL, hown8, hb2⟩
  have hB2 := hB1.trans (hb2.mono hs1)
  have hs2 := hB2.size
  have hsw2 : w.heap.size < w2.heap.size := by have := hb2.size; omega
  have hg2 := (hb2.block w.heap.size hsw1).trans hg1
  obtain ⟨po, co, rfl, k1, k2, hino, _⟩ := Own2.shape hownL rfl
  obtain ⟨qo, d8, rfl, m1, m2, hin8o⟩ := hown8.in8n rfl
  unfold entV
  clear c0 c1 c2 c3 c4 c5 c6 c7 c8 hownL hown8
  have c0 : w2.cell? ⟨w.heap.size, 0, none⟩ = some (.string k) := by rw [cell_of_row _ _ _ _ _ _ hg2]; rfl
  have c1 : w2.cell? ⟨w.heap.size, 1, none⟩ = some (.string va) := by rw [cell_of_row _ _ _ _ _ _ hg2]; rfl
  have c2 : w2.cell? ⟨w.heap.size, 2, none⟩ = some (.int .i64 st) := by rw [cell_of_row _ _ _ _ _ _ hg2]; rfl
  have c3 : w2.cell? ⟨w.heap.size, 3, none⟩ = some (.string rs) := by rw [cell_of_row _ _ _ _ _ _ hg2]; rfl
  have c4 : w2.cell? ⟨w.heap.size, 4, none⟩ = some (.int .i64 mi) := by rw [cell_of_row _ _ _ _ _ _ hg2]; rfl
  have c5 : w2.cell? ⟨w.heap.size, 5, none⟩ = some (.slice p L.length c) := by rw [cell_of_row _ _ _ _ _ _ hg2]; rfl
  have c6 : w2.cell? ⟨w.heap.size, 6, none⟩ = some (.slice x l.length y) := by rw [cell_of_row _ _ _ _ _ _ hg2]; rfl
  have c7 : w2.cell? ⟨w.heap.size, 7, none⟩ = some (.int .i64 a) := by rw [cell_of_row _ _ _ _ _ _ hg2]; rfl
  have c8 : w2.cell? ⟨w.heap.size, 8, none⟩ = some (.int .i64 g) := by rw [cell_of_row _ _ _ _ _ _ hg2]; rfl
  obtain ⟨wo, hwo⟩ : ∃ W0, W0 = w2.alloc (.cells #[.string k, .string va, .int .i64 st, .string rs, .int .i64 mi, .slice po L.length co, .slice qo l.length d8, .int .i64 a, .int .i64 g] 41) := ⟨_, rfl⟩
  have hbo : Below w2.heap.size w2 wo := by rw [hwo]; exact (Below.refl _ w2).alloc (Nat.le_refl _) _
  have hBo := hB2.trans (hbo.mono hs2)
  have hso : wo.heap.size = w2.heap.size + 1 := by rw [hwo]; simp
  have hgo := (hbo.block w.heap.size hsw2).trans hg2
  have hgn : wo.heap[w2.heap.size]? = some (.cells #[.string k, .string va, .int .i64 st, .string rs, .int .i64 mi, .slice po L.length co, .slice qo l.length d8, .int .i64 a, .int .i64 g] 41 (0, 0)) := by rw [hwo]; exact heap_alloc_new w2 _
  obtain ⟨S, hS⟩ : ∃ S : World → Prop, S = fun W => W.cell? ⟨w.heap.size, 0, none⟩ = some (.string k) ∧ W.cell? ⟨w.heap.size, 1, none⟩ = some (.string va) ∧ W.cell? ⟨w.heap.size, 2, none⟩ = some (.int .i64 st) ∧ W.cell? ⟨w.heap.size, 3, none⟩ = some (.string rs) ∧ W.cell? ⟨w.heap.size, 4, none⟩ = some (.int .i64 mi) ∧ W.cell? ⟨w.heap.size, 5, none⟩ = some (.slice p L.length c) ∧ W.cell? ⟨w.heap.size, 6, none⟩ = some (.slice x l.length y) ∧ W.cell? ⟨w.heap.size, 7, none⟩ = some (.int .i64 a) ∧ W.cell? ⟨w.heap.size, 8, none⟩ = some (.int .i64 g) ∧ W.cell? ⟨w2.heap.size, 0, none⟩ = some (.string k) ∧ W.cell? ⟨w2.heap.size, 1, none⟩ = some (.string va) ∧ W.cell? ⟨w2.heap.size, 2, none⟩ = some (.int .i64 st) ∧ W.cell? ⟨w2.heap.size, 3, none⟩ = some (.string rs) ∧ W.cell? ⟨w2.heap.size, 4, none⟩ = some (.int .i64 mi) ∧ W.cell? ⟨w2.heap.size, 5, none⟩ = some (.slice po L.length co) ∧ W.cell? ⟨w2.heap.size, 6, none⟩ = some (.slice qo l.length d8) ∧ W.cell? ⟨w2.heap.size, 7, none⟩ = some (.int .i64 a) ∧ W.cell? ⟨w2.heap.size, 8, none⟩ = some (.int .i64 g) ∧ Below wo.heap.size wo W := ⟨_, rfl⟩
  have step : ∀ W W', S W → Below W.heap.size W W' → S W' := by
    intro W W' h1 hb
    rw [hS] at h1 ⊢
    obtain ⟨h0, h1, h2, h3, h4, h5, h6, h7, h8, h9, h10, h11, h12, h13, h14, h15, h16, h17, hbl⟩ := h1
    exact ⟨cell_keep h0 hb, cell_keep h1 hb, cell_keep h2 hb, cell_keep h3 hb, cell_keep h4 hb, cell_keep h5 hb, cell_keep h6 hb, cell_keep h7 hb, cell_keep h8 hb, cell_keep h9 hb, cell_keep h10 hb, cell_keep h11 hb, cell_keep h12 hb, cell_keep h13 hb, cell_keep h14 hb, cell_keep h15 hb, cell_keep h16 hb, cell_keep h17 hb, hbl.trans (hb.mono hbl.size)⟩
  have bel : ∀ W, S W → Below wo.heap.size wo W := by
    intro W h1
    rw [hS] at h1
    exact h1.2.2.2.2.2.2.2.2.2.2.2.2.2.2.2.2.2.2
  have HBEL := Lib.hid bel
  have hS0 : S wo.drew := by
    rw [hS]
    exact ⟨by rw [cell_drew, cell_of_row _ _ _ _ _ _ hgo]; rfl, by rw [cell_drew, cell_of_row _ _ _ _ _ _ hgo]; rfl, by rw [cell_drew, cell_of_row _ _ _ _ _ _ hgo]; rfl, by rw [cell_drew, cell_of_row _ _ _ _ _ _ hgo]; rfl, by rw [cell_drew, cell_of_row _ _ _ _ _ _ hgo]; rfl, by rw [cell_drew, cell_of_row _ _ _ _ _ _ hgo]; rfl, by rw [cell_drew, cell_of_row _ _ _ _ _ _ hgo]; rfl, by rw [cell_drew, cell_of_row _ _ _ _ _ _ hgo]; rfl, by rw [cell_drew, cell_of_row _ _ _ _ _ _ hgo]; rfl, by rw [cell_drew, cell_of_row _ _ _ _ _ _ hgn]; rfl, by rw [cell_drew, cell_of_row _ _ _ _ _ _ hgn]; rfl, by rw [cell_drew, cell_of_row _ _ _ _ _ _ hgn]; rfl, by rw [cell_drew, cell_of_row _ _ _ _ _ _ hgn]; rfl, by rw [cell_drew, cell_of_row _ _ _ _ _ _ hgn]; rfl, by rw [cell_drew, cell_of_row _ _ _ _ _ _ hgn]; rfl, by rw [cell_drew, cell_of_row _ _ _ _ _ _ hgn]; rfl, by rw [cell_drew, cell_of_row _ _ _ _ _ _ hgn]; rfl, by rw [cell_drew, cell_of_row _ _ _ _ _ _ hgn]; rfl, (Below.refl _ wo).drew⟩
  have hA0 : In2 wo.drew pa A := (hA.below hBo).drewN 1
  have HCF := Lib.hid (show Calls Tryd.prog 11 #[.slice pa A.length ca] wo.drew fun e w' => ∃ p' c', e = .returned (.slice p' A.length c') ∧ In2 w' p' A ∧ S w' from
    (copyFields_any A pa _ ca rfl (by omega) wo.drew hA0).mono fun _ w' ⟨v, h1, h2, h3⟩ => by
      obtain ⟨p', c', rfl, _, _, hi, _⟩ := Own2.shape h2 rfl
      exact ⟨p', c', h1, hi, step _ _ hS0 h3⟩)
  have HMT := Lib.hid (fun W p' c' (hW : S W) (hi : In2 W p' A) => show Calls Tryd.prog 20 #[.agg #[.string k, .string va, .int .i64 st, .string rs, .int .i64 mi, .slice po L.length co, .slice qo l.length d8, .int .i64 a, .int .i64 g], .slice p' A.length c'] W fun e w' => e = .returned (.bool (matchB L va.data.toList A)) ∧ S w' from
    (matches_any k va st rs mi a g L po _ co rfl qo l.length d8 A p' _ c' rfl (by omega) (by omega) W (((hino.below hbo).below (bel W hW))) hi).mono fun _ _ ⟨h1, h2⟩ => ⟨h1, step _ _ hW h2⟩)
  have HRM := Lib.hid (fun W (hW : S W) => show Calls Tryd.prog 21 #[.agg #[.string k, .string va, .int .i64 st, .string rs, .int .i64 mi, .slice p L.length c, .slice x l.length y, .int .i64 a, .int .i64 g], .slice pa A.length ca] W fun e w' => e = .returned (.bool (matchB L va.data.toList A)) ∧ S w' from
    (refMatches_any k va st rs mi a g L p _ c rfl x l.length y A pa _ ca rfl (by omega) (by omega) W ((hin.below hBo).below (bel W hW)) ((hA.below hBo).below (bel W hW))).mono fun _ _ ⟨h1, h2⟩ => ⟨h1, step _ _ hW h2⟩)
  have HSE := Lib.hid (fun W (hW : S W) => show Calls Tryd.prog 22 #[.agg #[.string k, .string va, .int .i64 st, .string rs, .int .i64 mi, .slice po L.length co, .slice qo l.length d8, .int .i64 a, .int .i64 g], .agg #[.string k, .string va, .int .i64 st, .string rs, .int .i64 mi, .slice p L.length c, .slice x l.length y, .int .i64 a, .int .i64 g]] W fun e w' => e = .returned (.bool true) ∧ S w' from
    (sameEntry_same k va st rs mi a g L po p _ co _ c rfl rfl (by unfold maxLen; omega) l qo x _ d8 _ y rfl rfl (by unfold maxLen; omega) W ((hino.below hbo).below (bel W hW)) ((hin.below hBo).below (bel W hW)) ((hin8o.below hbo).below (bel W hW)) ((h8.below hBo).below (bel W hW))).mono fun _ _ ⟨h1, h2⟩ => ⟨h1, step _ _ hW h2⟩)
  have HSS := Lib.hid (fun W => show S W ↔ W.cell? ⟨w.heap.size, 0, none⟩ = some (.string k) ∧ W.cell? ⟨w.heap.size, 1, none⟩ = some (.string va) ∧ W.cell? ⟨w.heap.size, 2, none⟩ = some (.int .i64 st) ∧ W.cell? ⟨w.heap.size, 3, none⟩ = some (.string rs) ∧ W.cell? ⟨w.heap.size, 4, none⟩ = some (.int .i64 mi) ∧ W.cell? ⟨w.heap.size, 5, none⟩ = some (.slice p L.length c) ∧ W.cell? ⟨w.heap.size, 6, none⟩ = some (.slice x l.length y) ∧ W.cell? ⟨w.heap.size, 7, none⟩ = some (.int .i64 a) ∧ W.cell? ⟨w.heap.size, 8, none⟩ = some (.int .i64 g) ∧ W.cell? ⟨w2.heap.size, 0, none⟩ = some (.string k) ∧ W.cell? ⟨w2.heap.size, 1, none⟩ = some (.string va) ∧ W.cell? ⟨w2.heap.size, 2, none⟩ = some (.int .i64 st) ∧ W.cell? ⟨w2.heap.size, 3, none⟩ = some (.string rs) ∧ W.cell? ⟨w2.heap.size, 4, none⟩ = some (.int .i64 mi) ∧ W.cell? ⟨w2.heap.size, 5, none⟩ = some (.slice po L.length co) ∧ W.cell? ⟨w2.heap.size, 6, none⟩ = some (.slice qo l.length d8) ∧ W.cell? ⟨w2.heap.size, 7, none⟩ = some (.int .i64 a) ∧ W.cell? ⟨w2.heap.size, 8, none⟩ = some (.int .i64 g) ∧ Below wo.heap.size wo W by rw [hS])
  have HK0 := Lib.hid hS0
  generalize matchB L va.data.toList A = mb at HMT HRM
  have qmb : (mb == mb) = true := by simp
  have HBO := Lib.hid hBo
  have HWO := Lib.hid hwo
  clear step bel hS hS0 hA0 hgo hgn hbo hBo hso hwo
  go_wp2_with fail
  rw [← HWO.out]
  go_region_held3 (fun W => W.cell? ⟨w.heap.size, 0, none⟩ = some (.string k) ∧ W.cell? ⟨w.heap.size, 1, none⟩ = some (.string va) ∧ W.cell? ⟨w.heap.size, 2, none⟩ = some (.int .i64 st) ∧ W.cell? ⟨w.heap.size, 3, none⟩ = some (.string rs) ∧ W.cell? ⟨w.heap.size, 4, none⟩ = some (.int .i64 mi) ∧ W.cell? ⟨w.heap.size, 5, none⟩ = some (.slice p L.length c) ∧ W.cell? ⟨w.heap.size, 6, none⟩ = some (.slice x l.length y) ∧ W.cell? ⟨w.heap.size, 7, none⟩ = some (.int .i64 a) ∧ W.cell? ⟨w.heap.size, 8, none⟩ = some (.int .i64 g) ∧ W.cell? ⟨w2.heap.size, 0, none⟩ = some (.string k) ∧ W.cell? ⟨w2.heap.size, 1, none⟩ = some (.string va) ∧ W.cell? ⟨w2.heap.size, 2, none⟩ = some (.int .i64 st) ∧ W.cell? ⟨w2.heap.size, 3, none⟩ = some (.string rs) ∧ W.cell? ⟨w2.heap.size, 4, none⟩ = some (.int .i64 mi) ∧ W.cell? ⟨w2.heap.size, 5, none⟩ = some (.slice po L.length co) ∧ W.cell? ⟨w2.heap.size, 6, none⟩ = some (.slice qo l.length d8) ∧ W.cell? ⟨w2.heap.size, 7, none⟩ = some (.int .i64 a) ∧ W.cell? ⟨w2.heap.size, 8, none⟩ = some (.int .i64 g) ∧ Below wo.heap.size wo W)
    (first | (with_reducible exact (HSS.out _).1 HK0.out) | (with_reducible exact (HSS.out _).1 HK1.out) | (with_reducible exact (HSS.out _).1 HK2.out) | (with_reducible exact (HSS.out _).1 HK3.out) | (with_reducible exact (HSS.out _).1 HK4.out))
    (first
      | (go_at_call 11; with_reducible refine HCF.out.mono ?_; rintro e w4 ⟨p', c', rfl, hcp, hk⟩; have HCP := Lib.hid hcp; have HK1 := Lib.hid hk; clear hcp hk)
      | (go_at_call 20; with_reducible refine (HMT.out _ _ _ HK1.out HCP.out).mono ?_; rintro e w5 ⟨rfl, hk⟩; have HK2 := Lib.hid hk; clear hk)
      | (go_at_call 21; with_reducible refine (HRM.out _ HK2.out).mono ?_; rintro e w6 ⟨rfl, hk⟩; have HK3 := Lib.hid hk; clear hk)
      | (go_at_call 22; with_reducible refine (HSE.out _ HK3.out).mono ?_; rintro e w7 ⟨rfl, hk⟩; have HK4 := Lib.hid hk; clear hk))
  all_goals
    have hB4 := HBO.out.trans ((HBEL.out _ HK4.out).mono (HBO.out.size))
    go_wp2_with fail
    go_ret
    exact ⟨by simp, hB4⟩
end Go.Proofs.YtnibecboimgljaaDoor
