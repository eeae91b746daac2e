/-
  A map from texts to pairs of a text and a bool, that only new keys are put into.
-/
import Derived.Test.YtnengooipemffaaDoorStrB
import Derived.Test.YtnengooipemffaaDoorRowsOf
import Derived.StringKeys
import Derived.ChangeMaps5
import Derived.MapKept
import Derived.Carry
namespace Go.Proofs.YtnengooipemffaaDoor
open Go.RowKit

abbrev Ent := List UInt8 × (List UInt8 × Bool)
def argV (x : List UInt8 × Bool) : Value := .agg #[.string ⟨x.1.toArray⟩, .bool x.2]
/-- the table in block b holds the entries, each key once -/
def OwnM (w : World) (b : Nat) (T : List Ent) : Prop :=
  ∃ es clock, w.heap[b]? = some (.map es clock) ∧ es.toList.map (fun e => (e.key, e.val)) = T.map (fun x => (Value.string ⟨x.1.toArray⟩, argV x.2)) ∧ (T.map (·.1)).Nodup
def lookM (T : List Ent) (k : List UInt8) : Option (List UInt8 × Bool) := (T.find? fun x => decide (x.1 = k)).map (·.2)
theorem lookM_none (T : List Ent) (k : List UInt8) (h : ∀ x ∈ T, x.1 ≠ k) : lookM T k = none := by
  unfold lookM
  rw [List.find?_eq_none.2]
  · rfl
  · intro x hx; simpa using h x hx
theorem lookM_some (T : List Ent) (x : Ent) (h : x ∈ T) (hn : (T.map (·.1)).Nodup) : lookM T x.1 = some x.2 := by
  unfold lookM
  induction T with
  | nil => cases h
  | cons y T ih =>
    rw [List.map_cons, List.nodup_cons] at hn
    rw [List.find?_cons]
    by_cases hy : y.1 = x.1
    · rcases List.mem_cons.1 h with rfl | h
      · simp
      · exact absurd (List.mem_map.2 ⟨x, h, hy.symm⟩) hn.1
    · rcases List.mem_cons.1 h with rfl | h
      · exact absurd rfl hy
      · simp only [hy, decide_false]
        exact ih h hn.2
theorem lookM_snoc (T : List Ent) (x : Ent) (k : List UInt8) : lookM (T ++ [x]) k = (lookM T k).or (if x.1 = k then some x.2 else none) := by
  unfold lookM
  rw [List.find?_append]
  cases T.find? fun x => decide (x.1 = k) with
  | none =>
    by_cases h : x.1 = k
    · simp [h]
    · simp [h]
  | some y => simp
theorem nodup_snoc (T : List Ent) (x : Ent) (hn : (T.map (·.1)).Nodup) (h : lookM T x.1 = none) : ((T ++ [x]).map (·.1)).Nodup := by
  rw [List.map_append, List.nodup_append]
  refine ⟨hn, by simp, ?_⟩
  intro a ha b hb
  simp only [List.map_cons, List.map_nil, List.mem_singleton] at hb
  subst hb
  intro e
  obtain ⟨y, hy, rfl⟩ := List.mem_map.1 ha
  have := lookM_some T y hy hn
  rw [e, h] at this
  cases this

theorem strLaw : Go.WideMaps.KeyLaw Tryd.prog 9 := Go.WideMaps.string_law Tryd.underlying9
theorem keyM (s : ByteArray) (h : s.size ≤ maxLen) : keyOf Tryd.prog 9 (.string s) = some (.string s.data.toList) := Go.WideMaps.keyOf_string_mk Tryd.underlying9 h

theorem str_toArray (s : ByteArray) (l : List UInt8) (h : s.data.toList = l) : (⟨l.toArray⟩ : ByteArray) = s := by
  rw [← h]
theorem OwnM.below {w w' : World} {b : Nat} {T : List Ent} (h : OwnM w b T) (hb : Below w.heap.size w w') : OwnM w' b T := by
  obtain ⟨es, clock, hg, r⟩ := h
  exact ⟨es, clock, (hb.block b (Array.getElem?_eq_some_iff.1 hg).1).trans hg, r⟩
theorem OwnM.lt {w : World} {b : Nat} {T : List Ent} (h : OwnM w b T) : b < w.heap.size := by
  obtain ⟨es, clock, hg, r⟩ := h
  exact (Array.getElem?_eq_some_iff.1 hg).1
theorem OwnM.made (w : World) : OwnM (w.alloc (.map #[] 0)) w.heap.size [] := ⟨#[], 0, heap_alloc_new w _, rfl, by simp⟩

/-- the entries of the block, key for key -/
theorem entries_at {es : Array MapEntry} {T : List Ent} (h : es.toList.map (fun e => (e.key, e.val)) = T.map (fun x => (Value.string ⟨x.1.toArray⟩, argV x.2))) {e : MapEntry} (he : e ∈ es.toList) : ∃ x ∈ T, e.key = .string ⟨x.1.toArray⟩ ∧ e.val = argV x.2 := by
  have : (e.key, e.val) ∈ es.toList.map (fun e => (e.key, e.val)) := List.mem_map.2 ⟨e, he, rfl⟩
  rw [h] at this
  obtain ⟨x, hx, e2⟩ := List.mem_map.1 this
  simp only [Prod.mk.injEq] at e2
  exact ⟨x, hx, e2.1.symm, e2.2.symm⟩
theorem entries_of {es : Array MapEntry} {T : List Ent} (h : es.toList.map (fun e => (e.key, e.val)) = T.map (fun x => (Value.string ⟨x.1.toArray⟩, argV x.2))) {x : Ent} (hx : x ∈ T) : ∃ e ∈ es.toList, e.key = .string ⟨x.1.toArray⟩ ∧ e.val = argV x.2 := by
  have : (Value.string ⟨x.1.toArray⟩, argV x.2) ∈ T.map (fun x => (Value.string ⟨x.1.toArray⟩, argV x.2)) := List.mem_map.2 ⟨x, hx, rfl⟩
  rw [← h] at this
  obtain ⟨e, he, e2⟩ := List.mem_map.1 this
  simp only [Prod.mk.injEq] at e2
  exact ⟨e, he, e2.1, e2.2⟩
theorem keys_small {es : Array MapEntry} {T : List Ent} (h : es.toList.map (fun e => (e.key, e.val)) = T.map (fun x => (Value.string ⟨x.1.toArray⟩, argV x.2))) (hs : ∀ x ∈ T, x.1.length ≤ maxLen) : ∀ e ∈ es.toList, ∃ l, keyOf Tryd.prog 9 e.key = some l := by
  intro e he
  obtain ⟨x, hx, e1, _⟩ := entries_at h he
  rw [e1]
  exact ⟨_, keyM _ (by rw [← size_list]; exact hs x hx)⟩

set_option maxRecDepth 100000 in
/-- v, ok := t[k] -/
theorem run_lookM {w : World} {b : Nat} {T : List Ent} (h : OwnM w b T) (hs : ∀ x ∈ T, x.1.length ≤ maxLen) (k : ByteArray) (hk : k.size ≤ maxLen) :
    (Instr.lookup 44 (.map (some b)) (.string k) true).run Tryd.prog w = .ok (.tuple #[argV ((lookM T k.data.toList).getD ([], false)), .bool (lookM T k.data.toList).isSome]) w := by
  obtain ⟨es, clock, hg, hes, hn⟩ := h
  have hkey := keyM k hk
  have hz : (zeroValue 71).run Tryd.prog w = .ok (argV ([], false)) w := by kernel_rfl
  rcases strLaw.find w hkey es.toList (keys_small hes hs) with ⟨h1, h2⟩ | ⟨j, e0, h1, h2, h3⟩
  · have hl : lookM T k.data.toList = none := by
      apply lookM_none
      intro x hx e
      obtain ⟨y, hy, e1, _⟩ := entries_of hes hx
      exact h2 y hy (by rw [e1]; congr 1; exact str_toArray k x.1 e.symm)
    rw [hl]
    simp [Instr.lookup, run_underlying Tryd.underlying44, Go.MapKept.run_getObj_map hg, strLaw.check w _ hkey, h1, hz, Result.andThen]
  · have hm0 : e0 ∈ es.toList := List.mem_of_getElem? h2
    obtain ⟨x, hx, e1, e2⟩ := entries_at hes hm0
    have ek : x.1 = k.data.toList := by
      rw [h3] at e1
      injection e1 with e1
      rw [e1]
    have hl := lookM_some T x hx hn
    rw [ek] at hl
    rw [hl]
    simp [Instr.lookup, run_underlying Tryd.underlying44, Go.MapKept.run_getObj_map hg, strLaw.check w _ hkey, h1, e2, Result.andThen]

set_option maxRecDepth 100000 in
/-- t[k] = v, k a new key -/
theorem run_putM {w : World} {b : Nat} {T : List Ent} (h : OwnM w b T) (hs : ∀ x ∈ T, x.1.length ≤ maxLen) (k a : ByteArray) (c : Bool) (hk : k.size ≤ maxLen) (hno : lookM T k.data.toList = none) :
    ∃ w', (Instr.mapUpdate 44 (.map (some b)) (.string k) (.agg #[.string a, .bool c])).run Tryd.prog w = .ok () w' ∧ OwnM w' b (T ++ [(k.data.toList, (a.data.toList, c))]) ∧ Only (fun g => g = b) w w' := by
  obtain ⟨es, clock, hg, hes, hn⟩ := h
  have hkey := keyM k hk
  rcases strLaw.find w hkey es.toList (keys_small hes hs) with ⟨h1, h2⟩ | ⟨j, e0, h1, h2, h3⟩
  · refine ⟨Go.ChangeMaps.setBlock w b (.map (es.push { key := .string k, val := .agg #[.string a, .bool c], born := clock }) (clock + 1)), ?_, ⟨_, _, Go.ChangeMaps.heap_setBlock_same hg _, ?_, nodup_snoc T (k.data.toList, (a.data.toList, c)) hn hno⟩, ⟨rfl, rfl, rfl, ?_, fun i _ hi => Go.ChangeMaps.heap_setBlock_other hg _ hi⟩⟩
    · simp [Instr.mapUpdate, run_underlying Tryd.underlying44, Go.MapKept.run_getObj_map hg, strLaw.check w _ hkey, h1, Go.MapKept.run_setObj_map _ hg, Result.andThen, Go.ChangeMaps.setBlock]
    · simp [hes, argV]
    · simp [Go.ChangeMaps.setBlock]
  · exfalso
    have hm0 : e0 ∈ es.toList := List.mem_of_getElem? h2
    obtain ⟨x, hx, e1, e2⟩ := entries_at hes hm0
    have ek : x.1 = k.data.toList := by
      rw [h3] at e1
      injection e1 with e1
      rw [e1]
    have hl := lookM_some T x hx hn
    rw [ek, hno] at hl
    cases hl
end Go.Proofs.YtnengooipemffaaDoor
