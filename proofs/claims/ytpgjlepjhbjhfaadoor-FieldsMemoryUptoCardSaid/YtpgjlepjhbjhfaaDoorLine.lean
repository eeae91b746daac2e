/-
  line, one: the field of a line.
-/
import Derived.Test.YtpgjlepjhbjhfaaDoorGood
import Derived.Test.YtpgjlepjhbjhfaaDoorCut
import Derived.Test.YtpgjlepjhbjhfaaDoorShelf
import Derived.Test.YtpgjlepjhbjhfaaDoorPairs
import Derived.Test.YtpgjlepjhbjhfaaDoorKeep
import Derived.Test.YtpgjlepjhbjhfaaDoorListLaw
import Derived.Laws.ResultCell
namespace Go.Proofs.YtpgjlepjhbjhfaaDoor
open Go.RowKit

/-- the field of a line that is cut -/
def lineC : Option (List UInt8 × List UInt8) → Pair × Nat
  | none => (([], []), 40)
  | some (a, b) => if isTok a = true ∧ goodT (trim b) = true then ((a, trim b), 0) else (([], []), 40)
/-- the field of a line, and the error's number -/
def lineR (l : List UInt8) : Pair × Nat :=
  if l.head? = some 32 ∨ l.head? = some 9 then (([], []), 41) else lineC (cutB 58 l)
def fieldV (x : Pair) : Value := .agg #[.string ⟨x.1.toArray⟩, .string ⟨x.2.toArray⟩]

theorem prefix_one (c : UInt8) (l : List UInt8) : Lib.hasPrefix l [c] = decide (l.head? = some c) := by
  unfold Lib.hasPrefix
  cases l with
  | nil => simp [List.isPrefixOf]
  | cons x r =>
    by_cases h : x = c
    · subst h; simp [List.isPrefixOf]
    · have h2 : ¬ c = x := fun e => h e.symm
      simp [List.isPrefixOf, h, h2]

theorem hasPre (c : UInt8) (s : ByteArray) (w : World) :
    Calls Tryd.prog 68 #[.string s, .string ⟨#[c]⟩] w fun e w' => e = .returned (.bool (decide (s.data.toList.head? = some c))) ∧ w = w' := by
  have h := Tryd.strings_HasPrefix s ⟨#[c]⟩ w
  rw [show (⟨#[c]⟩ : ByteArray).data.toList = [c] from rfl, prefix_one] at h
  exact h.mono fun _ _ ⟨h1, h2⟩ => ⟨h1, h2.symm⟩
theorem emptyF (w : World) : Below w.heap.size w (w.alloc (.cells #[.string ⟨#[]⟩, .string ⟨#[]⟩] 26)) := (Below.refl _ w).alloc (Nat.le_refl _) _

/-- the cell of the result -/
theorem resF {w w2 : World} (hb : Below (w.alloc (.cells #[.string ⟨#[]⟩, .string ⟨#[]⟩] 26)).heap.size (w.alloc (.cells #[.string ⟨#[]⟩, .string ⟨#[]⟩] 26)) w2) :
    w2.cell? ⟨w.heap.size, 0, none⟩ = some (.string ⟨#[]⟩) ∧ w2.cell? ⟨w.heap.size, 1, none⟩ = some (.string ⟨#[]⟩) ∧ ∀ i, w2.frozen? ⟨w.heap.size, i, none⟩ = false := by
  have g : w2.heap[w.heap.size]? = some (.cells #[.string ⟨#[]⟩, .string ⟨#[]⟩] 26 (0, 0)) := (hb.block w.heap.size (by simp)).trans (heap_alloc_new w _)
  refine ⟨?_, ?_, fun i => frozen_of_row w2 w.heap.size i _ _ g⟩
  all_goals (rw [cell_of_row _ _ _ _ _ _ g]; rfl)

set_option maxHeartbeats 4000000 in
theorem line_any (s : ByteArray) (w : World) (hm : MaxC w) (hs : s.size ≤ 4000000000) :
    Calls Tryd.prog 41 #[.string s] w fun e w' => e = .returned (.tuple #[fieldV (lineR s.data.toList).1, .int .i64 ((lineR s.data.toList).2 : Int)]) ∧ Below w.heap.size w w' := by
  have hb0 := emptyF w
  have hs0 := hb0.size
  have hm0 := hm.below hb0
  by_cases h1 : s.data.toList.head? = some 32
  · have HR := Lib.hid (show lineR s.data.toList = (([], []), 41) by unfold lineR; rw [if_pos (.inl h1)])
    have H1 := Lib.hid h1
    clear h1
    go_enter Tryd.func41, Tryd.ntmps41
    go_wp2_with fail
    refine (hasPre 32 s _).mono ?_
    rintro e w1 ⟨rfl, rfl⟩
    rw [decide_eq_true H1.out]
    go_wp2_with fail
    rw [HR.out]
    refine bodyPost_ret (v := .tuple #[fieldV ([], []), .int .i64 41]) (by simp [results, Tryd.results41, go_sem, fieldV]) rfl ⟨rfl, hb0⟩
  · by_cases h2 : s.data.toList.head? = some 9
    · have HR := Lib.hid (show lineR s.data.toList = (([], []), 41) by unfold lineR; rw [if_pos (.inr h2)])
      have H1 := Lib.hid h1
      have H2 := Lib.hid h2
      clear h1 h2
      go_enter Tryd.func41, Tryd.ntmps41
      go_wp2_with fail
      refine (hasPre 32 s _).mono ?_
      rintro e w1 ⟨rfl, rfl⟩
      rw [decide_eq_false H1.out]
      go_wp2_with fail
      refine (hasPre 9 s _).mono ?_
      rintro e w1 ⟨rfl, rfl⟩
      rw [decide_eq_true H2.out]
      go_wp2_with fail
      rw [HR.out]
      refine bodyPost_ret (v := .tuple #[fieldV ([], []), .int .i64 41]) (by simp [results, Tryd.results41, go_sem, fieldV]) rfl ⟨rfl, hb0⟩
    · have H1 := Lib.hid h1
      have H2 := Lib.hid h2
      have HN := Lib.hid (show ¬ (s.data.toList.head? = some 32 ∨ s.data.toList.head? = some 9) by simp [h1, h2])
      clear h1 h2
      cases hc : cutB 58 s.data.toList with
      | none =>
        have HR := Lib.hid (show lineR s.data.toList = (([], []), 40) by unfold lineR; rw [if_neg HN.out, hc]; rfl)
        have hcut := cut_none 58 s _ hm0 hs hc
        clear hc
        go_enter Tryd.func41, Tryd.ntmps41
        go_wp2_with fail
        refine (hasPre 32 s _).mono ?_
        rintro e w1 ⟨rfl, rfl⟩
        rw [decide_eq_false H1.out]
        go_wp2_with fail
        refine (hasPre 9 s _).mono ?_
        rintro e w1 ⟨rfl, rfl⟩
        rw [decide_eq_false H2.out]
        go_wp2_with fail
        refine hcut.mono ?_
        rintro e w1 ⟨rfl, hb1⟩
        have hs1 := hb1.size
        go_wp2_with fail
        refine (tokTrim_any ⟨#[]⟩ _ (by decide)).mono ?_
        rintro e w2 ⟨rfl, hb2⟩
        obtain ⟨e0, e1, e8⟩ := resF (hb1.trans (hb2.mono hs1))
        have hbc := (hb0.trans (hb1.mono hs0)).trans (hb2.mono (by omega))
        rw [show (trim (⟨#[]⟩ : ByteArray).data.toList) = [] from rfl]
        go_wp2_with fail
        rw [HR.out]
        refine bodyPost_ret (v := .tuple #[fieldV ([], []), .int .i64 40]) (by simp [results, Tryd.results41, go_sem, fieldV, e0, e1]) rfl ⟨rfl, (hbc.setCell (p := ⟨w.heap.size, 0, none⟩) (Nat.le_refl _) _).setCell (p := ⟨w.heap.size, 1, none⟩) (Nat.le_refl _) _⟩
      | some ab =>
        obtain ⟨a, b⟩ := ab
        have hcut := cut_some 58 s _ hm0 hs a b hc
        have hlen := cutB_len 58 _ a b hc
        rw [size_list] at hlen
        have HR := Lib.hid (show lineR s.data.toList = if isTok a = true ∧ goodT (trim b) = true then ((a, trim b), 0) else (([], []), 40) by unfold lineR; rw [if_neg HN.out, hc]; rfl)
        clear hc
        obtain ⟨x, hx⟩ : ∃ x : ByteArray, x = ⟨a.toArray⟩ := ⟨_, rfl⟩
        obtain ⟨y, hy⟩ : ∃ y : ByteArray, y = ⟨b.toArray⟩ := ⟨_, rfl⟩
        obtain ⟨t, ht⟩ : ∃ t : ByteArray, t = ⟨(trim b).toArray⟩ := ⟨_, rfl⟩
        rw [← hx, ← hy] at hcut
        have hxd : x.data.toList = a := by rw [hx]
        have hyd : y.data.toList = b := by rw [hy]
        have htd : t.data.toList = trim b := by rw [ht]
        have hxs : x.size ≤ maxLen := by rw [← size_list, hxd]; unfold maxLen; omega
        have hys : y.size ≤ maxLen := by rw [← size_list, hyd]; unfold maxLen; omega
        have hts : t.size ≤ maxLen := by have := trim_length b; rw [← size_list, htd]; unfold maxLen; omega
        have HX := Lib.hid hx
        have HY := Lib.hid hyd
        have HT := Lib.hid ht
        have HXD := Lib.hid hxd
        have HTD := Lib.hid htd
        have HXS := Lib.hid hxs
        have HYS := Lib.hid hys
        have HTS := Lib.hid hts
        clear hx hy ht hxd hyd htd hxs hys hts
        go_enter Tryd.func41, Tryd.ntmps41
        go_wp2_with fail
        refine (hasPre 32 s _).mono ?_
        rintro e w1 ⟨rfl, rfl⟩
        rw [decide_eq_false H1.out]
        go_wp2_with fail
        refine (hasPre 9 s _).mono ?_
        rintro e w1 ⟨rfl, rfl⟩
        rw [decide_eq_false H2.out]
        go_wp2_with fail
        refine hcut.mono ?_
        rintro e w1 ⟨rfl, hb1⟩
        have hs1 := hb1.size
        go_wp2_with fail
        refine (tokTrim_any y _ HYS.out).mono ?_
        rintro e w2 ⟨rfl, hb2⟩
        have hs2 := hb2.size
        rw [HY.out, ← HT.out]
        go_wp2_with fail
        refine (tok_any x _ HXS.out).mono ?_
        rintro e w3 ⟨rfl, rfl⟩
        rw [HXD.out]
        cases hk : isTok a
        · have HK := Lib.hid (show ¬ (isTok a = true ∧ goodT (trim b) = true) by rw [hk]; simp)
          clear hk
          obtain ⟨e0, e1, e8⟩ := resF (hb1.trans (hb2.mono hs1))
          have hbc := (hb0.trans (hb1.mono hs0)).trans (hb2.mono (by omega))
          go_wp2_with fail
          rw [HR.out, if_neg HK.out]
          refine bodyPost_ret (v := .tuple #[fieldV ([], []), .int .i64 40]) (by simp [results, Tryd.results41, go_sem, fieldV, e0, e1]) rfl ⟨rfl, (hbc.setCell (p := ⟨w.heap.size, 0, none⟩) (Nat.le_refl _) _).setCell (p := ⟨w.heap.size, 1, none⟩) (Nat.le_refl _) _⟩
        · have HK := Lib.hid hk
          clear hk
          go_wp2_with fail
          refine (good_any t _ HTS.out).mono ?_
          rintro e w4 ⟨rfl, hb4⟩
          rw [HTD.out]
          obtain ⟨e0, e1, e8⟩ := resF ((hb1.trans (hb2.mono hs1)).trans (hb4.mono (by omega)))
          have hbc := ((hb0.trans (hb1.mono hs0)).trans (hb2.mono (by omega))).trans (hb4.mono (by omega))
          cases hg : goodT (trim b)
          · have HG := Lib.hid (show ¬ (isTok a = true ∧ goodT (trim b) = true) by rw [hg]; simp)
            clear hg
            go_wp2_with fail
            rw [HR.out, if_neg HG.out]
            refine bodyPost_ret (v := .tuple #[fieldV ([], []), .int .i64 40]) (by simp [results, Tryd.results41, go_sem, fieldV, e0, e1]) rfl ⟨rfl, (hbc.setCell (p := ⟨w.heap.size, 0, none⟩) (Nat.le_refl _) _).setCell (p := ⟨w.heap.size, 1, none⟩) (Nat.le_refl _) _⟩
          · have HG := Lib.hid (show isTok a = true ∧ goodT (trim b) = true from ⟨HK.out, hg⟩)
            clear hg
            go_wp2_with fail
            rw [HR.out, if_pos HG.out]
            refine bodyPost_ret (v := .tuple #[.agg #[.string x, .string t], .int .i64 0]) (by simp [results, Tryd.results41, go_sem, e0, e1]) rfl ⟨?_, (hbc.setCell (p := ⟨w.heap.size, 0, none⟩) (Nat.le_refl _) _).setCell (p := ⟨w.heap.size, 1, none⟩) (Nat.le_refl _) _⟩
            unfold fieldV
            rw [← HX.out, ← HT.out]
            rfl
end Go.Proofs.YtpgjlepjhbjhfaaDoor
