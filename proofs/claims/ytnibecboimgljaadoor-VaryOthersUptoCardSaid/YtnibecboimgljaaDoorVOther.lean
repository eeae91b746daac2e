/-
  A field that Vary doesn't name makes no difference: plain words. And parts of rows of fields.
-/
import Derived.Test.YtnibecboimgljaaDoorMatches
namespace Go.Proofs.YtnibecboimgljaaDoor
open Go.RowKit

theorem lowB_low (b : UInt8) : lowB (lowB b) = lowB b := by
  have h : ∀ n : Fin 256, lowB (lowB (UInt8.ofNat n.val)) = lowB (UInt8.ofNat n.val) := by decide +kernel
  have := h ⟨b.toNat, b.toNat_lt⟩
  rwa [UInt8.ofNat_toNat] at this
theorem fold_fold (l : List UInt8) : fold (fold l) = fold l := by
  unfold fold
  rw [List.map_map]
  exact List.map_congr_left fun b _ => lowB_low b
theorem names_folded (L : List Pair) : ∀ n ∈ (namesT L).1, fold n = n := by
  intro n hn
  unfold namesT at hn
  split at hn
  · cases hn
  · have h1 := ((namesOf_spec (tokensOf L varyB)).2 n).1 hn
    unfold tokensOf wordsOf at h1
    obtain ⟨v, _, hv⟩ := List.mem_flatMap.1 h1
    obtain ⟨e, _, rfl⟩ := List.mem_map.1 hv
    exact fold_fold e
theorem values_other (A1 A2 : List Pair) (o : Pair) (n : List UInt8) (h : ¬ fold o.1 = fold n) : valuesOf (A1 ++ [o] ++ A2) n = valuesOf (A1 ++ A2) n := by
  unfold valuesOf
  rw [List.filter_append, List.filter_append, List.filter_append]
  have : [o].filter (hasName n) = [] := by
    rw [List.filter_cons, if_neg (by unfold hasName; simpa using h)]
    rfl
  rw [this, List.append_nil]
theorem keyT_other (A1 A2 : List Pair) (o : Pair) (NS : List (List UInt8)) (h : ∀ n ∈ NS, ¬ fold o.1 = fold n) : keyT NS (A1 ++ [o] ++ A2) = keyT NS (A1 ++ A2) := by
  unfold keyT
  congr 1
  refine List.map_congr_left fun n hn => ?_
  unfold keyOne elsOf
  rw [values_other A1 A2 o n (h n hn)]
theorem match_other (L : List Pair) (v : List UInt8) (A1 A2 : List Pair) (o : Pair) (h : ∀ n ∈ (namesT L).1, n ≠ fold o.1) : matchB L v (A1 ++ [o] ++ A2) = matchB L v (A1 ++ A2) := by
  unfold matchB
  rw [keyT_other A1 A2 o _ (fun n hn e => h n hn (by rw [e, names_folded L n hn]))]

theorem In2.left {w : World} {p : Option Addr} {A : List Pair} (h : In2 w p A) (k : Nat) : In2 w p (A.take k) := by
  intro h0
  obtain ⟨b, o, e, hc⟩ := h (by rw [List.length_take] at h0; omega)
  refine ⟨b, o, e, fun j v hv => hc j v ?_⟩
  have hs : pr A = pr (A.take k) ++ pr (A.drop k) := by rw [← pr_append, List.take_append_drop]
  rw [hs, List.getElem?_append_left (List.getElem?_eq_some_iff.1 hv).1]
  exact hv
theorem In2.right {w : World} {b o : Nat} {A : List Pair} (h : In2 w (some ⟨b, o, none⟩) A) (k : Nat) (hk : k ≤ A.length) : In2 w (some ⟨b, o + k * 2, none⟩) (A.drop k) := by
  intro h0
  obtain ⟨b', o', e, hc⟩ := h (by rw [List.length_drop] at h0; omega)
  injection e with e
  injection e with e1 e2 _
  subst e1 e2
  refine ⟨b, o + k * 2, rfl, fun j v hv => ?_⟩
  have hl : (pr (A.take k)).length = k * 2 := by rw [pr_length, List.length_take, Nat.min_eq_left hk]
  have hs : pr A = pr (A.take k) ++ pr (A.drop k) := by rw [← pr_append, List.take_append_drop]
  have := hc (k * 2 + j) v (by rw [hs, List.getElem?_append_right (by omega), hl]; rw [show k * 2 + j - k * 2 = j by omega]; exact hv)
  rwa [← Nat.add_assoc] at this
theorem bulkF_append (L M : List Pair) : bulkF (L ++ M) = bulkF L + bulkF M := by simp [bulkF]
end Go.Proofs.YtnibecboimgljaaDoor
