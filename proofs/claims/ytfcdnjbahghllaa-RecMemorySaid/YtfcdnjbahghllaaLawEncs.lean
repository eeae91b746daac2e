/-
  RecEncodes: the program's record and the document's are one.
-/
import Derived.Test.YtfcdnjbahghllaaAlive
namespace Go.Proofs.Ytfcdnjbahghllaa
open Go.RowKit

theorem sameOwn {w : World} {b1 b2 : Nat} {v1 v2 : Value} {l m : List UInt8} (h1 : Own8 w b1 v1 l) (h2 : Own8 w b2 v2 m) :
    Calls Try.prog 14 #[v1, v2] w fun e w' => e = .returned (.bool (decide (l = m))) ∧ Below w.heap.size w w' := by
  obtain ⟨p1, c1, rfl, a1, a2, a3⟩ := h1.in8
  obtain ⟨p2, c2, rfl, d1, d2, d3⟩ := h2.in8
  exact sameBytes_any l m p1 p2 _ c1 _ c2 rfl rfl (by omega) (by omega) w a3 d3

/-- the four cells of a record's box -/
def Box4 (w : World) (b : Nat) (x0 x1 x2 x3 : Value) : Prop :=
  w.cell? ⟨b, 0, none⟩ = some x0 ∧ w.cell? ⟨b, 1, none⟩ = some x1 ∧ w.cell? ⟨b, 2, none⟩ = some x2 ∧ w.cell? ⟨b, 3, none⟩ = some x3
theorem Box4.below {B b : Nat} {w w' : World} {x0 x1 x2 x3 : Value} (h : Box4 w b x0 x1 x2 x3) (hb : Below B w w') (hlt : b < B) : Box4 w' b x0 x1 x2 x3 :=
  ⟨(hb.cell (p := ⟨b, 0, none⟩) hlt).trans h.1, (hb.cell (p := ⟨b, 1, none⟩) hlt).trans h.2.1, (hb.cell (p := ⟨b, 2, none⟩) hlt).trans h.2.2.1, (hb.cell (p := ⟨b, 3, none⟩) hlt).trans h.2.2.2⟩

set_option maxHeartbeats 1000000 in
theorem recEncodes_walk (seq op no : Int) (id : ByteArray) (w : World) (_ : -9223372036854775808 ≤ seq ∧ seq ≤ 9223372036854775807) (_ : -9223372036854775808 ≤ op ∧ op ≤ 9223372036854775807) (_ : -9223372036854775808 ≤ no ∧ no ≤ 9223372036854775807) (_ : id.size ≤ maxLen) :
    Calls Try.prog 4 #[.agg #[.int .i64 seq, .int .i64 op, .int .i64 no, .string id]] w fun e w' => e = .returned (.bool true) ∧ Below w.heap.size w w' := by
  have hc : Box4 (w.alloc (.cells #[.int .i64 seq, .int .i64 op, .int .i64 no, .string id] 29)) w.heap.size _ _ _ _ := cells4_at w (.int .i64 seq) (.int .i64 op) (.int .i64 no) (.string id) 29
  have hbw : Below w.heap.size w (w.alloc (.cells #[.int .i64 seq, .int .i64 op, .int .i64 no, .string id] 29)) := (Below.refl _ _).alloc (Nat.le_refl _) _
  go_enter Try.func4, Try.ntmps4
  go_wp2_with fail
  refine (alive_any _).mono ?_
  rintro e w1 ⟨rfl, hb1⟩
  have hz1 : w.heap.size + 1 ≤ w1.heap.size := by have := hb1.size; simpa using this
  have hB1 := hc.below hb1 (by simp)
  obtain ⟨c10, c11, c12, c13⟩ := _root_.id hB1
  go_wp2_with fail
  refine (recEnc_any seq op no id w1).mono ?_
  rintro e w2 ⟨v2, rfl, hown2, hb2⟩
  have hz2 : w.heap.size + 1 ≤ w2.heap.size := by have := hb2.size; omega
  have hB2 := hB1.below hb2 (by omega)
  obtain ⟨c20, c21, c22, c23⟩ := _root_.id hB2
  clear c10 c11 c12 c13
  go_wp2_with fail
  refine (refEnc_any seq op no id w2).mono ?_
  rintro e w3 ⟨v3, rfl, hown3, hb3⟩
  have hown2' := hown2.below hb3
  clear c20 c21 c22 c23
  go_wp2_with fail
  refine (sameOwn hown2' hown3).mono ?_
  rintro e w4 ⟨rfl, hb4⟩
  have hdec : decide (encOf seq op no id.data.toList = encOf seq op no id.data.toList) = true := decide_eq_true rfl
  rw [hdec]
  clear hdec
  go_wp2_with fail
  go_ret
  have hs2 := hb2.size
  have hs3 := hb3.size
  exact ⟨ret_bool (by simp), (((hbw.trans (hb1.mono (by simp))).trans (hb2.mono (by omega))).trans (hb3.mono (by omega))).trans (hb4.mono (by omega))⟩
end Go.Proofs.Ytfcdnjbahghllaa
