/-
  Both disks at one state: what the laws ask of them.
-/
import Derived.Test.YtnhfnfdmpcpcoaaDoorHRefLeftW9
import Derived.Test.YtnhfnfdmpcpcoaaDoorHDuo9
import Derived.Test.YtnhfnfdmpcpcoaaDoorN9g
namespace Go.Proofs.YtnhfnfdmpcpcoaaDoor
open Go.RowKit Go.Maps
set_option linter.unusedVariables false

/-- both disks at one state, the document's in the box rb -/
def TL (w1 : World) (rb dd : Nat) (A : Pl) (r : RC) (W : World) : Prop := Duo w1 (fun g => g = rb) dd A r A W ∧ W.heap[rb]? = some (.cells (stC r A) 52 (0, 0))
section
variable {w1 W W' : World} {rb dd n : Nat} {A : Pl} {r : RC}
theorem TL.below (h : TL w1 rb dd A r W) (hb : Below W.heap.size W W') : TL w1 rb dd A r W' := ⟨h.1.below hb, Below.heap hb h.2⟩
theorem TL.cells (h : TL w1 rb dd A r W) : W.cell? ⟨rb, 0, none⟩ = some (.slice r.p1 A.now.length r.c1) ∧ W.cell? ⟨rb, 1, none⟩ = some (.slice r.p2 A.safe.length r.c2) ∧ W.cell? ⟨rb, 2, none⟩ = some (.slice r.p3 A.pend.length r.c3) ∧ W.cell? ⟨rb, 3, none⟩ = some (.slice r.p4 A.files.length r.c4) ∧ W.cell? ⟨rb, 4, none⟩ = some (.slice r.p5 A.files.length r.c5) ∧ W.cell? ⟨rb, 5, none⟩ = some (.int .i64 (A.room : Int)) ∧ W.cell? ⟨rb, 6, none⟩ = some (.slice r.p6 A.fails.length r.c6) ∧ W.cell? ⟨rb, 7, none⟩ = some (.int .i64 A.power) ∧ W.cell? ⟨rb, 8, none⟩ = some (.int .i64 (A.steps : Int)) := by
  have h1 := h.2
  unfold stC at h1
  obtain ⟨g0, g1, g2, g3, g4, g5, g6, g7, g8, _⟩ := st9v h1
  exact ⟨g0, g1, g2, g3, g4, g5, g6, g7, g8⟩
theorem TL.left (h : TL w1 rb dd A r W) (hA : GoodA n A) (hn : n ≤ 1000000) (k : Int) (K : List Int) (kp : Option Addr) (m kc : Nat) (hm : K.length = m) (hK : InV W kp (K.map (Value.int .i64))) :
    Calls Tryd.prog 19 #[.pointer (some ⟨dd, 0, none⟩), .agg #[.int .i64 k, .slice kp m kc]] W fun e w' => ∃ p c, e = .returned (.slice p (leftP A k K).length c) ∧ InFs w' p (leftP A k K) ∧ TL w1 rb dd A r w' ∧ Below W.heap.size W w' :=
  (left_dp h.1.dp hA hn k K kp m kc hm hK).mono fun e w' hp => by
    obtain ⟨p, c, h1, _, h3, h4⟩ := hp
    exact ⟨p, c, h1, h3, h.below h4, h4⟩
theorem TL.rleft (h : TL w1 rb dd A r W) (hA : GoodA n A) (hS : InvS A) (hn : n ≤ 1000000) (k : Int) (K : List Int) (kp : Option Addr) (m kc : Nat) (hm : K.length = m) (hml : m ≤ 1000000000) (hK : InV W kp (K.map (Value.int .i64))) :
    Calls Tryd.prog 28 #[.agg #[.slice r.p1 A.now.length r.c1, .slice r.p2 A.safe.length r.c2, .slice r.p3 A.pend.length r.c3, .slice r.p4 A.files.length r.c4, .slice r.p5 A.files.length r.c5, .int .i64 (A.room : Int), .slice r.p6 A.fails.length r.c6, .int .i64 A.power, .int .i64 (A.steps : Int)], .agg #[.int .i64 k, .slice kp m kc]] W fun e w' => ∃ p c, e = .returned (.slice p (leftP A k K).length c) ∧ InFs w' p (leftP A k K) ∧ TL w1 rb dd A r w' ∧ Below W.heap.size W w' := by
  have hlb := (left_bounds hA hn k K).1
  have := refLeft_any r A k K kp m kc hm W h.1.ref hK hA.inv hS (hA.fitP hn).pend (by have := (hA.fitP hn).safe; omega) (by unfold leftP at hlb; rw [List.length_map] at hlb; omega) (fun f hf => hA.dat f hf) hml
  unfold stC at this
  refine this.mono fun e w' hp => ?_
  obtain ⟨v, h1, h2, h3⟩ := hp
  obtain ⟨p, c, rfl, _, _, hin, _⟩ := h2.shape rfl
  exact ⟨p, c, h1, hin, h.below h3, h3⟩
theorem TL.list (h : TL w1 rb dd A r W) (hA : GoodA n A) (hn : n ≤ 1000000) :
    Calls Tryd.prog 30 #[.pointer (some ⟨dd, 0, none⟩)] W fun e w' => ∃ p c, e = .returned (.slice p (listP A).length c) ∧ InS w' p (listP A) ∧ TL w1 rb dd A r w' ∧ Below W.heap.size W w' :=
  (list_dp h.1.dp hA hn).mono fun e w' hp => by
    obtain ⟨p, c, h1, _, h3, h4⟩ := hp
    exact ⟨p, c, h1, h3, h.below h4, h4⟩
theorem TL.rlist (h : TL w1 rb dd A r W) (hA : GoodA n A) (hn : n ≤ 1000000) :
    Calls Tryd.prog 31 #[.agg #[.slice r.p1 A.now.length r.c1, .slice r.p2 A.safe.length r.c2, .slice r.p3 A.pend.length r.c3, .slice r.p4 A.files.length r.c4, .slice r.p5 A.files.length r.c5, .int .i64 (A.room : Int), .slice r.p6 A.fails.length r.c6, .int .i64 A.power, .int .i64 (A.steps : Int)]] W fun e w' => ∃ p c, e = .returned (.slice p (listP A).length c) ∧ InS w' p (listP A) ∧ TL w1 rb dd A r w' ∧ Below W.heap.size W w' := by
  have := refList_any r A W h.1.ref.now (hA.fitP hn).now
  unfold stC at this
  refine this.mono fun e w' hp => ?_
  obtain ⟨p, c, h1, h3, h4⟩ := hp
  exact ⟨p, c, h1, h3, h.below h4, h4⟩
theorem TL.copyFate (h : TL w1 rb dd A r W) (k : Int) (K : List Int) (kp : Option Addr) (m kc : Nat) (hm : K.length = m) (hml : m ≤ 1000000000) (hK : InV W kp (K.map (Value.int .i64))) :
    Calls Tryd.prog 20 #[.agg #[.int .i64 k, .slice kp m kc]] W fun e w' => ∃ p c, e = .returned (.agg #[.int .i64 k, .slice p m c]) ∧ InV w' p (K.map (Value.int .i64)) ∧ TL w1 rb dd A r w' ∧ Below W.heap.size W w' :=
  (copyFate_any k K kp m kc hm (by omega) W hK).mono fun e w' hp => by
    obtain ⟨p, c, h1, h2, _, h4⟩ := hp
    subst hm
    exact ⟨p, c, h1, h2, h.below h4, h4⟩
theorem TL.sameFiles (h : TL w1 rb dd A r W) (F : List FT) (p q : Option Addr) (c d : Nat) (hF : F.length ≤ 140737488351232) (h1 : InFs W p F) (h2 : InFs W q F) :
    Calls Tryd.prog 27 #[.slice p F.length c, .slice q F.length d] W fun e w' => e = .returned (.bool true) ∧ TL w1 rb dd A r w' ∧ Below W.heap.size W w' :=
  (sameFiles_any F F p q _ c _ d rfl rfl hF hF W h1 h2).mono fun e w' hp => ⟨by rw [hp.1, decide_eq_true rfl], h.below hp.2, hp.2⟩
theorem TL.sameTexts (h : TL w1 rb dd A r W) (L : List BS) (p q : Option Addr) (c d : Nat) (hL : L.length ≤ 4000000000000) (h1 : InS W p L) (h2 : InS W q L) :
    Calls Tryd.prog 29 #[.slice p L.length c, .slice q L.length d] W fun e w' => e = .returned (.bool true) ∧ TL w1 rb dd A r w' ∧ Below W.heap.size W w' :=
  (sameTexts_any L L p q _ c _ d rfl rfl (by unfold maxLen; omega) (by unfold maxLen; omega) W h1 h2).mono fun e w' hp => ⟨by rw [hp.1, decide_eq_true rfl], h.below hp.2, hp.2⟩
end
theorem listP_len {n : Nat} {A : Pl} (hA : GoodA n A) (hn : n ≤ 1000000) : (listP A).length ≤ 4000000000000 := by
  have := (hA.fitP hn).now
  unfold listP
  split
  · simp
  · rw [List.length_map]; exact this

end Go.Proofs.YtnhfnfdmpcpcoaaDoor
