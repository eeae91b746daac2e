/-
  slices.Sort, Compact and Contains at rows of texts, in the words of the walks.
-/
import Derived.Test.YtnibecboimgljaaDoorTexts
import Derived.Test.YtnibecboimgljaaDoorShelf
import Derived.Test.YtnibecboimgljaaDoorNamesLaw
import Derived.Sort.OwnSorted
import Derived.Sort.Grow
import Derived.Lib.OwnBridge
import Derived.Lib.RowBridge
namespace Go.Proofs.YtnibecboimgljaaDoor
open Go.RowKit Go.Sort

theorem tx_enc (L : List BS) : tx L = L.map encStr := rfl
theorem sortL_length (L : List BS) : (sortL L).length = L.length := List.length_mergeSort L

theorem sort_own {B : Nat} {v : Value} {L : List BS} (w : World) (h : OwnS w B v L) (hn : L.length ≤ 8000000000000) :
    Calls Tryd.prog 26 #[v] w fun e w' => e = .returned (.tuple #[]) ∧ OwnS w' B v (sortL L) ∧ w.grownBy w' v.ownBlock := by
  by_cases hv : v = .slice none 0 0
  · subst hv
    have hl : L = [] := by
      rcases h.2 with ⟨_, hz⟩ | ⟨g, cap, cur, e, _⟩
      · exact List.eq_nil_of_length_eq_zero hz
      · cases e
    subst hl
    refine (Tryd.slices_Sort_string_none none 0 w).mono ?_
    rintro e w' ⟨rfl, rfl⟩
    exact ⟨rfl, by simpa [sortL] using h, ⟨rfl, rfl, rfl, Nat.le_refl _, fun _ _ _ => rfl⟩⟩
  · have h' : w.ownsRow B 9 1 v L.length (L.map encStr) := h
    obtain ⟨g, cap, rfl, hbg, hgl, hncap, hcm, hlen, hH⟩ := Lib.holds_of_ownsRow h' hv
    refine (Tryd.slices_Sort_string g 0 cap L w hH hgl (by omega)).mono ?_
    rintro e w' ⟨rfl, nn, os, rfl⟩
    have hl2 : (L.mergeSort fun x y => decide (x ≤ y)).length = L.length := List.length_mergeSort L
    rcases h'.2 with ⟨h0, _⟩ | ⟨g', cap', cur, hv, hbase, hb, h1, h2, h3, h4⟩
    · cases h0
    cases hv
    have hs := ownsRow_sorted (n := nn) (os := os) (ts := L.mergeSort fun x y => decide (x ≤ y)) hl2 hbase hb h1 h2 h3
    refine ⟨rfl, ?_, grownBy_sorted _⟩
    unfold OwnS
    rw [sortL_length]
    exact hs

theorem compact_own {B : Nat} {v : Value} {L : List BS} (w : World) (h : OwnS w B v L) (hn : L.length ≤ 8000000000000) :
    Calls Tryd.prog 27 #[v] w fun e w' => ∃ v', e = .returned v' ∧ OwnS w' B v' (Lib.compact L) ∧ w.grownBy w' v.ownBlock ∧ v'.ownBlock = v.ownBlock := by
  by_cases hv : v = .slice none 0 0
  · subst hv
    have hl : L = [] := by
      rcases h.2 with ⟨_, hz⟩ | ⟨g, cap, cur, e, _⟩
      · exact List.eq_nil_of_length_eq_zero hz
      · cases e
    subst hl
    refine (Tryd.slices_Compact_string_empty none 0 w).mono ?_
    rintro e w' ⟨rfl, rfl⟩
    exact ⟨_, rfl, by simpa [Lib.compact, Lib.compactUpTo] using h, ⟨rfl, rfl, rfl, Nat.le_refl _, fun _ _ _ => rfl⟩, rfl⟩
  · have h' : w.ownsRow B 9 1 v L.length (L.map encStr) := h
    obtain ⟨g, cap, rfl, hbg, hgl, hncap, hcm, hlen, hH⟩ := Lib.holds_of_ownsRow h' hv
    have hle := Lib.compact_length_le L
    refine (Tryd.slices_Compact_string g 0 cap L w hH (by omega) hncap).mono ?_
    rintro e w' ⟨rfl, q, rfl⟩
    have hc := Lib.ownsRow_putRow (q := q) (k := (Lib.compact L).length) (ys := Lib.compact L ++ List.replicate (L.length - (Lib.compact L).length) []) h' (by simp; omega) (by omega)
    rw [List.take_left] at hc
    exact ⟨_, rfl, hc, grownBy_sorted (os := #[]) _, rfl⟩

theorem containsS_mem (L : List BS) (x : ByteArray) : Lib.containsS (L.map fun l => (⟨l.toArray⟩ : ByteArray)) x = decide (x.data.toList ∈ L) := by
  rw [Bool.eq_iff_iff, Lib.containsS_iff, decide_eq_true_eq, List.mem_map]
  constructor
  · rintro ⟨l, hl, rfl⟩
    exact hl
  · intro h
    exact ⟨_, h, by cases x; simp⟩

theorem contains_in {p : Option Addr} {n c : Nat} {L : List BS} (x : ByteArray) (w : World) (hn : L.length = n) (hm : n ≤ 8000000000000) (h : InS w p L) :
    Calls Tryd.prog 25 #[.slice p n c, .string x] w fun e w' => e = .returned (.bool (decide (x.data.toList ∈ L))) ∧ w' = w := by
  subst hn
  cases L with
  | nil =>
    refine (Tryd.slices_Contains_string_empty p c x w).mono ?_
    rintro e w' ⟨rfl, rfl⟩
    exact ⟨by simp, rfl⟩
  | cons y r =>
    obtain ⟨b, o, rfl, hall⟩ := InV.at h (k := 0) (by rw [tx_length]; simp)
    have := Tryd.slices_Contains_string b o (y :: r).length c ((y :: r).map fun l => (⟨l.toArray⟩ : ByteArray)) x w (by simp) (by omega) (fun j hj => by
      have hj' : j < (y :: r).length := by simpa using hj
      rw [hall j (by rw [tx_length]; exact hj')]
      simp only [tx, List.getElem_map]
      rw [List.getD_eq_getElem?_getD, List.getElem?_map, List.getElem?_eq_getElem hj']
      rfl)
    rw [List.take_of_length_le (by simp), containsS_mem] at this
    exact this
end Go.Proofs.YtnibecboimgljaaDoor
