/-
  Marked: the fields of an answer written over and grown: nothing but its row turns.
-/
import Derived.Test.YtpgjlepjhbjhfaaDoorFieldsA
import Derived.Test.YtpgjlepjhbjhfaaDoorAppendW
import Derived.Test.YtpgjlepjhbjhfaaDoorRowsOf
namespace Go.Proofs.YtpgjlepjhbjhfaaDoor
open Go.RowKit

theorem pr_set1 (L : List Pair) (k : Nat) (h : k < L.length) (a : List UInt8) : pr (L.set k (a, L[k].2)) = (pr L).set (k * 2) (.string ⟨a.toArray⟩) := by
  induction L generalizing k with
  | nil => simp at h
  | cons x L ih =>
    cases k with
    | zero => simp [pr, prV]
    | succ k =>
      have e : (k + 1) * 2 = k * 2 + 1 + 1 := by omega
      rw [e]
      simp only [List.set_cons_succ, pr, prV, List.getElem_cons_succ, List.cons_append, List.nil_append]
      rw [ih k (by simpa using h)]
theorem Own2.stored1 {e : TypeId} {w : World} {base g n cap : Nat} {L : List Pair} (h : Own2 e w base (.slice (some ⟨g, 0, none⟩) n cap) L) (hn : L.length = n) (k : Nat) (hk : k < L.length) (a : ByteArray) :
    Own2 e (w.setCell ⟨g, k * 2, none⟩ (.string a)) base (.slice (some ⟨g, 0, none⟩) n cap) (L.set k (a.data.toList, L[k].2)) := by
  subst hn
  have := (World.ownsRow.stored h (k * 2) (.string a)).1
  unfold Own2
  rw [List.length_set, pr_set1 L k hk]
  exact this
theorem Own2.cells1 {e : TypeId} {w : World} {base g n cap : Nat} {L : List Pair} (h : Own2 e w base (.slice (some ⟨g, 0, none⟩) n cap) L) (hn : L.length = n) {k : Nat} (hk : k < n) :
    w.cell? ⟨g, k * 2, none⟩ = some (.string ⟨(L[k]'(by omega)).1.toArray⟩) ∧ w.frozen? ⟨g, k * 2, none⟩ = false := by
  subst hn
  exact ⟨(World.ownsRow.cellAt h (k * 2) (by omega)).trans (pr_get L k hk).1, World.ownsRow.frozenAt h (k * 2)⟩
theorem Own2.opened {e : TypeId} {w : World} {base n : Nat} {v : Value} {L : List Pair} (h : Own2 e w base v L) (hn : L.length = n) (h0 : 0 < n) : ∃ g c, v = .slice (some ⟨g, 0, none⟩) n c ∧ n ≤ c ∧ c ≤ maxLen := by
  subst hn
  rcases h.2 with ⟨_, hl⟩ | ⟨g, cap, cur, e, _, _, h1, h2, _⟩
  · omega
  · exact ⟨g, cap, e, h1, h2⟩

set_option maxHeartbeats 4000000 in
theorem marked_any (L : List Pair) (n base : Nat) (v : Value) (hn : L.length = n) (hr : n ≤ 4400000000000) (w : World) (hown : OwnF w base v L) (hbs : base ≤ w.heap.size) :
    Calls Tryd.prog 32 #[v] w fun e w' => e = .returned (.bool true) ∧ Only (fun k => v.ownBlock = some k) w w' := by
  have hlt := fun k e => (World.ownsRow.lt hown k e).2
  obtain ⟨p, c, rfl, h1, h2, _, _⟩ := Own2.shape hown hn
  go_enter Tryd.func32, Tryd.ntmps32
  go_wp2_with fail
  go_loopw [3] (fun i wr => ∃ (k : Nat) (M : List Pair), k ≤ n ∧ i = .int .i64 k ∧ M.length = n ∧ OwnF wr base (.slice p n c) M ∧ Only (fun k => (Value.slice p n c).ownBlock = some k) w wr) (fun i _ => n - (intOf i).toNat)
  case atStart => exact ⟨0, L, by omega, rfl, hn, hown, Only.refl _ _⟩
  case round =>
    obtain ⟨k, M, hk, rfl, hM, how, hon⟩ := hrel
    have hws := hon.size
    by_cases hlt2 : k < n
    · obtain ⟨g, c', e, _, _⟩ := Own2.opened how hM (by omega)
      simp only [Value.slice.injEq, true_and] at e
      obtain ⟨rfl, rfl⟩ := e
      obtain ⟨z1, z2⟩ := Own2.cells1 how hM hlt2
      generalize (⟨(M[k]'(by omega)).1.toArray⟩ : ByteArray) = old at z1
      obtain ⟨M', hM', hst⟩ : ∃ M' : List Pair, M'.length = n ∧ OwnF (wr.setCell ⟨g, k * 2, none⟩ (.string ⟨#[109, 97, 114, 107]⟩)) base (.slice (some ⟨g, 0, none⟩) n c) M' :=
        ⟨_, by rw [List.length_set]; exact hM, Own2.stored1 how hM k (by omega) ⟨#[109, 97, 114, 107]⟩⟩
      have HST := Lib.hid hst
      have HML := Lib.hid hM'
      clear hst hM' how hown hM hn
      go_wp2_with fail
      go_roundw
      case rel => exact ⟨k + 1, _, by omega, by go_num, HML.out, HST.out, hon.setCell (by rfl) _⟩
      case measure => simp [intOf]; omega
    · obtain rfl : k = n := by omega
      clear hown hn
      go_wp2_with fail
      go_loopw [0, 4] (fun v i wr => ∃ (j m : Nat) (p2 : Option Addr) (c2 : Nat) (M : List Pair), j ≤ 9 ∧ i = .int .i64 j ∧ m = k + j ∧ v = .slice p2 m c2 ∧ m ≤ c2 ∧ c2 ≤ maxLen ∧ M.length = m ∧ OwnF wr base v M ∧ (∀ g, v.ownBlock = some g → (Value.slice p k c).ownBlock = some g ∨ w.heap.size ≤ g) ∧ Only (fun k' => (Value.slice p k c).ownBlock = some k') w wr) (fun _ i _ => 9 - (intOf i).toNat)
      case atStart => exact ⟨0, k, p, c, M, by omega, rfl, rfl, rfl, h1, h2, hM, how, fun g e => .inl e, hon⟩
      case round =>
        obtain ⟨j, m, p2, c2, M2, hj, rfl, hm, rfl, hc1, hc2, hM2, how2, hway, hon2⟩ := hrel
        have hws2 := hon2.size
        have HWY := Lib.hid hway
        have HMM := Lib.hid hm
        clear hway how
        by_cases hj9 : j < 9
        · have hin := In2.one wr ⟨#[109, 111, 114, 101]⟩ ⟨#[]⟩ 26
          have how3 := how2.alloc (.cells #[.string ⟨#[109, 111, 114, 101]⟩, .string ⟨#[]⟩] 26)
          go_wp2_with (at_builtin; refine wpList_append2w parF rfl _ _ rfl base _ _ rfl how3 _ 1 _ _ rfl rfl hin (by omega) (by simp; omega) ?_; intro v4 w4 hown4 hgrow4 hway4)
          have hl4 : (M2 ++ [(([109, 111, 114, 101] : List UInt8), ([] : List UInt8))]).length = m + 1 := by rw [List.length_append, hM2]; rfl
          obtain ⟨p4, c4, rfl, q1, q2, _, _⟩ := Own2.shape hown4 (n := m + 1) (by rw [List.length_append, hM2]; rfl)
          go_roundw
          case rel =>
            refine ⟨j + 1, m + 1, p4, c4, _, by omega, by go_num, by rw [HMM.out]; omega, rfl, q1, q2, hl4, hown4, fun g e => ?_, (hon2.alloc _).grown hgrow4 (fun q e => HWY.out q e)⟩
            rcases hway4 g e with h | h
            · exact HWY.out g h
            · exact .inr (by simp at h; omega)
          case measure => simp [intOf]; omega
        · have hm9 : (9 : Int) ≤ (m : Int) := by have := HMM.out; omega
          go_wp2_with fail
          go_ret
          exact ⟨ret_bool (by simp; omega), hon2⟩
end Go.Proofs.YtpgjlepjhbjhfaaDoor
