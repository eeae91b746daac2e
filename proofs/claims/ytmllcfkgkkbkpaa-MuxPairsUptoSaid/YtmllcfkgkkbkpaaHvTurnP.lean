/-
  turn, beside workers that make blocks.
-/
import Derived.Test.YtmllcfkgkkbkpaaHvStrLP
import Derived.Test.YtmllcfkgkkbkpaaPk2
namespace Go.Proofs.Ytmllcfkgkkbkpaa
open Go Go.Conc Go.RowKit Go.Conc.Lib Go.ConcR.Gen
open Go.ConcN (upd upd_ne upd_same WgLive)
open Go.ConcR (KK wgBlock WgAt stA smA rd wr mk DC0)
set_option maxRecDepth 100000 in
theorem array33 (T : Array Value) (h : T.size = 33) : ∃ v0 v1 v2 v3 v4 v5 v6 v7 v8 v9 v10 v11 v12 v13 v14 v15 v16 v17 v18 v19 v20 v21 v22 v23 v24 v25 v26 v27 v28 v29 v30 v31 v32, T = #[v0, v1, v2, v3, v4, v5, v6, v7, v8, v9, v10, v11, v12, v13, v14, v15, v16, v17, v18, v19, v20, v21, v22, v23, v24, v25, v26, v27, v28, v29, v30, v31, v32] := by
  obtain ⟨l⟩ := T
  rcases l with _ | ⟨v0, l⟩
  · simp at h
  rcases l with _ | ⟨v1, l⟩
  · simp at h
  rcases l with _ | ⟨v2, l⟩
  · simp at h
  rcases l with _ | ⟨v3, l⟩
  · simp at h
  rcases l with _ | ⟨v4, l⟩
  · simp at h
  rcases l with _ | ⟨v5, l⟩
  · simp at h
  rcases l with _ | ⟨v6, l⟩
  · simp at h
  rcases l with _ | ⟨v7, l⟩
  · simp at h
  rcases l with _ | ⟨v8, l⟩
  · simp at h
  rcases l with _ | ⟨v9, l⟩
  · simp at h
  rcases l with _ | ⟨v10, l⟩
  · simp at h
  rcases l with _ | ⟨v11, l⟩
  · simp at h
  rcases l with _ | ⟨v12, l⟩
  · simp at h
  rcases l with _ | ⟨v13, l⟩
  · simp at h
  rcases l with _ | ⟨v14, l⟩
  · simp at h
  rcases l with _ | ⟨v15, l⟩
  · simp at h
  rcases l with _ | ⟨v16, l⟩
  · simp at h
  rcases l with _ | ⟨v17, l⟩
  · simp at h
  rcases l with _ | ⟨v18, l⟩
  · simp at h
  rcases l with _ | ⟨v19, l⟩
  · simp at h
  rcases l with _ | ⟨v20, l⟩
  · simp at h
  rcases l with _ | ⟨v21, l⟩
  · simp at h
  rcases l with _ | ⟨v22, l⟩
  · simp at h
  rcases l with _ | ⟨v23, l⟩
  · simp at h
  rcases l with _ | ⟨v24, l⟩
  · simp at h
  rcases l with _ | ⟨v25, l⟩
  · simp at h
  rcases l with _ | ⟨v26, l⟩
  · simp at h
  rcases l with _ | ⟨v27, l⟩
  · simp at h
  rcases l with _ | ⟨v28, l⟩
  · simp at h
  rcases l with _ | ⟨v29, l⟩
  · simp at h
  rcases l with _ | ⟨v30, l⟩
  · simp at h
  rcases l with _ | ⟨v31, l⟩
  · simp at h
  rcases l with _ | ⟨v32, l⟩
  · simp at h
  rcases l with _ | ⟨x, l⟩
  · exact ⟨_, _, _, _, _, _, _, _, _, _, _, _, _, _, _, _, _, _, _, _, _, _, _, _, _, _, _, _, _, _, _, _, _, rfl⟩
  · simp at h
theorem Gw.thenx {σ σ1 σ2 : Ph} {w w1 w2 : World} {row : Option Nat} (h : Gw σ w σ1 w1) (g : Gx row σ1 w1 σ2 w2) (hr : ∀ x, row = some x → w.heap.size ≤ x) : Gw σ w σ2 w2 := by
  have h1 := h.size
  have h2 := g.size
  refine ⟨?_, fun x hx => g.f0 x (h.f0 x hx), fun x hx => ?_, fun x hx => ?_, by omega, g.os.trans h.os, g.output.trans h.output⟩
  · rw [g.same, h.same]
  · rcases g.f1 x hx with y | y
    · exact (h.f1 x y).imp _root_.id fun k => ⟨k.1, by omega⟩
    · exact .inr ⟨by omega, y.2⟩
  · rw [g.low x (by omega) fun e => by have := hr x e.symm; omega]
    exact h.low x hx
end Go.Proofs.Ytmllcfkgkkbkpaa
namespace Go.Proofs.Ytmllcfkgkkbkpaa.Pr
open Go Go.Conc Go.RowKit Go.Conc.Lib Go.ConcR.Gen
open Go.ConcN (upd upd_ne upd_same WgLive)
open Go.ConcR (KK wgBlock WgAt stA smA rd wr mk DC0)
noncomputable def bodyTu : Code := (Try.f27.body).getD .skip
theorem ntTu : Try.f27.ntmps = 33 := by kernel_rfl
theorem app33 (a b : Value) : (#[a, b] : Array Value) ++ Array.replicate (33 - (#[a, b] : Array Value).size) undef = #[a, b, undef, undef, undef, undef, undef, undef, undef, undef, undef, undef, undef, undef, undef, undef, undef, undef, undef, undef, undef, undef, undef, undef, undef, undef, undef, undef, undef, undef, undef, undef, undef] := by
  apply Array.ext'
  simp [List.replicate]
section
variable {Post : Value → World → Prop} {σ : Ph} {pw : World} {c : Frame} {cs : List Frame}
/-- At the head of its loop. -/
def InvTu (σ0 : Ph) (w0 : World) (left : List Int) (pick : Int) (p : Option Addr) (n cc k : Nat) (a : Act) (σ : Ph) (w : World) : Prop :=
  ∃ (T : Array Value) (v : Value) (out : List Int), a = ⟨T, []⟩ ∧ T.size = 33 ∧ T[1]? = some (.int .i64 pick) ∧ T[5]? = some v ∧ T[8]? = some (.slice p n cc) ∧ T[9]? = some (.int .i64 n) ∧ T[10]? = some (.int .i64 k) ∧
    OwnI w w0.heap.size v out ∧ out = openTo left k ∧ Gw σ0 w0 σ w
set_option maxRecDepth 100000 in
set_option maxHeartbeats 4000000 in
theorem turnW {left : List Int} {p : Option Addr} {n cc : Nat} {pick : Int} (hGW0 : ∀ b, σ.F b → Try.prog.globals.size ≤ b ∧ b < pw.heap.size) (hgs0 : Try.prog.globals.size ≤ pw.heap.size) (hin : InI pw p left) (hn : left.length = n) (hs : n < 1000000)
    (hend : ∀ σ' pw', Gw σ pw σ' pw' → MW Try.prog wtG zI zS Post σ' (G (c.finish (.int .i64 (turnT left pick))) cs) pw') :
    MW Try.prog wtG zI zS Post σ (G (Frame.enter Try.prog 27 #[.slice p n cc, .int .i64 pick] .normal) (c :: cs)) pw := by
  have HN := Lib.hid hn
  clear hn
  refine mw_body1 (cc := bodyTu) (r := 4) Try.func27 rfl rfl fun Q hQ => ?_
  rw [ntTu, app33]
  simp only [bodyTu, Try.f27, Option.getD_some]
  refine wpW_seq (wpW_region ?_)
  simp only [List.size_toArray, List.length_cons, List.length_nil, Nat.zero_add, List.range, List.range.loop]
  refine opsW_read calmM hGW0 hgs0 rfl rfl rfl (fun κ t d K hK => ?_)
  go_simp
  refine hK _ ?_
  clear hK
  walk_nrm
  refine opsW_nil ?_
  show wpW _ _ _ _ _ _ _ _ _ _ _
  refine wpW_seq (wpW_region ?_)
  simp only [List.size_toArray, List.length_cons, List.length_nil, Nat.zero_add, List.range, List.range.loop]
  refine opsW_read calmM hGW0 hgs0 rfl rfl rfl (fun κ t d K hK => ?_)
  go_simp
  refine hK _ ?_
  clear hK
  walk_nrm
  refine opsW_nil ?_
  show wpW _ _ _ _ _ _ _ _ _ _ _
  refine wpW_seq (wpW_seq (wpW_region ?_))
  simp only [List.size_toArray, List.length_cons, List.length_nil, Nat.reduceAdd, Nat.zero_add, List.range, List.range.loop]
  refine opsW_read calmM hGW0 hgs0 rfl rfl rfl (fun κ t d K hK => ?_)
  go_simp
  refine hK _ ?_
  clear hK
  walk_nrm
  refine opsW_read calmM hGW0 hgs0 rfl rfl rfl (fun κ t d K hK => ?_)
  go_simp
  refine hK _ ?_
  clear hK
  walk_nrm
  refine opsW_read calmM hGW0 hgs0 rfl rfl rfl (fun κ t d K hK => ?_)
  go_simp
  refine hK _ ?_
  clear hK
  walk_nrm
  refine opsW_nil ?_
  show wpW _ _ _ _ _ _ _ _ _ _ _
  refine wpW_block (wpW_loop (fun a σ' w => ∃ k, k ≤ n ∧ InvTu σ pw left pick p n cc k a σ' w) (fun a _ _ => n + 1 - (intOf (a.tmps.getD 10 undef)).toNat) ⟨0, by omega, _, _, [], rfl, rfl, rfl, rfl, rfl, rfl, rfl, OwnI.nil _ _, rfl, Gw.refl⟩ fun a σ1 w1 hI => ?_)
  obtain ⟨k, hk, T, v, out, rfl, hT, t1, t5, t8, t9, t10, hown, ho, hgr⟩ := hI
  obtain ⟨v0, v1, v2, v3, v4, v5, v6, v7, v8, v9, v10, v11, v12, v13, v14, v15, v16, v17, v18, v19, v20, v21, v22, v23, v24, v25, v26, v27, v28, v29, v30, v31, v32, rfl⟩ := array33 T hT
  simp only [List.getElem?_toArray, List.getElem?_cons_zero, List.getElem?_cons_succ, Option.some.injEq] at t1 t5 t8 t9 t10
  subst t1 t5 t8 t9 t10
  have hz := hgr.size
  have hGW := hgr.hG hgs0 hGW0
  have hgs : Try.prog.globals.size ≤ w1.heap.size := by omega
  have hol : out.length ≤ k := by rw [ho]; exact openTo_len _ _
  refine wpW_seq (wpW_region ?_)
  simp only [List.size_toArray, List.length_cons, List.length_nil, Nat.zero_add, List.range, List.range.loop]
  by_cases hlt : k < n
  · have hl : k < left.length := by rw [HN.out]; exact hlt
    have HS := Lib.hid (openTo_step hl ho)
    have HO := Lib.hid ho
    clear ho
    obtain ⟨b, o, rfl, hc⟩ := hin.at hl
    have hc1 := hgr.cell hc
    generalize hx : left[k] = x at hc hc1 HS
    clear hx
    have hkn : (k : Int) < (n : Int) := by omega
    have hlt1 : decide ((k : Int) < (n : Int)) = true := by simp; exact hlt
    refine opsW_read calmM hGW hgs rfl rfl rfl (fun κ t d K hK => ?_)
    go_simp
    refine hK _ ?_
    clear hK
    walk_nrm
    refine opsW_nil ?_
    show wpW _ _ _ _ _ _ _ _ _ _ _
    refine wpW_seq ?_
    refine wpW_cond (t := true) (by first | rfl | (simp [Act.eval]; omega)) ?_
    simp only [↓reduceIte]
    refine wpW_skip ?_
    show wpW _ _ _ _ _ _ _ _ _ _ _
    refine wpW_seq (wpW_block (wpW_seq (wpW_region ?_)))
    simp only [List.size_toArray, List.length_cons, List.length_nil, Nat.reduceAdd, Nat.zero_add, List.range, List.range.loop]
    refine opsW_read calmM hGW hgs rfl rfl rfl (fun κ t d K hK => ?_)
    go_simp
    refine hK _ ?_
    clear hK
    walk_nrm
    refine opsW_read calmM hGW hgs rfl rfl rfl (fun κ t d K hK => ?_)
    go_simp
    refine hK _ ?_
    clear hK
    walk_nrm
    refine opsW_read calmM hGW hgs rfl rfl rfl (fun κ t d K hK => ?_)
    have hx := grW_cell (P := Try.prog) (k := κ) hc1 (t := t) (d := d)
    go_simp
    refine hK _ ?_
    clear hK hx
    walk_nrm
    refine opsW_read calmM hGW hgs rfl rfl rfl (fun κ t d K hK => ?_)
    go_simp
    refine hK _ ?_
    clear hK
    walk_nrm
    refine opsW_read calmM hGW hgs rfl rfl rfl (fun κ t d K hK => ?_)
    go_simp
    refine hK _ ?_
    clear hK
    walk_nrm
    refine opsW_nil ?_
    show wpW _ _ _ _ _ _ _ _ _ _ _
    refine wpW_seq (wpW_region ?_)
    simp only [List.size_toArray, List.length_cons, List.length_nil, Nat.reduceAdd, Nat.zero_add, List.range, List.range.loop]
    by_cases hp : 0 < x
    · have hpx : decide (x > 0) = true := by simp; exact hp
      refine opsW_read calmM hGW hgs rfl rfl rfl (fun κ t d K hK => ?_)
      go_simp
      refine hK _ ?_
      clear hK
      walk_nrm
      refine opsW_read calmM hGW hgs rfl rfl rfl (fun κ t d K hK => ?_)
      go_simp
      refine hK _ ?_
      clear hK
      walk_nrm
      refine opsW_nil ?_
      show wpW _ _ _ _ _ _ _ _ _ _ _
      refine wpW_cond (t := true) (by first | rfl | (simp [Act.eval]; omega)) ?_
      simp only [↓reduceIte]
      refine wpW_region ?_
      simp only [List.size_toArray, List.length_cons, List.length_nil, Nat.reduceAdd, Nat.zero_add, List.range, List.range.loop]
      refine opsW_read calmM hGW hgs rfl rfl rfl (fun κ t d K hK => ?_)
      go_simp
      refine hK _ ?_
      clear hK
      walk_nrm
      refine opsW_read calmM hGW hgs rfl rfl rfl (fun κ t d K hK => ?_)
      go_simp
      refine hK _ ?_
      clear hK
      walk_nrm
      refine opsW_new (ob := .cells #[.int .i64 k] 3) (f := fun s => .slice (some ⟨s, 0, none⟩) 1 1) (fun x hx => (hGW x hx).2) rfl rfl rfl (by simp) (fun w => ⟨by go_simp, by simp [go_sem]⟩) fun σ2 w2 s2 g2 h2 f2 l2 z2 => ?_
      walk_nrm
      have hgr2 := hgr.trans g2
      have own2 : w2.ownsRow pw.heap.size 3 1 v5 out.length (iv out) := owns_keep (w' := w2) hown (fun g hg _ => g2.low g hg)
      have hz2 := hgr2.size
      have hGW2 := hgr2.hG hgs0 hGW0
      refine opsW_app calmM hGW2 (by omega) rfl rfl rfl pw.heap.size (v := v5) (e := 3) (z0 := .int .i64 0) (size := 1) (bytes := 8) Try.underlying23 rfl rfl rfl own2 rfl (fun κ t d => src_cell Try.underlying23 rfl ((grW_at (by omega)).trans h2)) (by simp only [maxLen]; omega) (by omega) hz2 (fun v' σ3 w3 own3 g3 _b3 => ?_)
      have hgr3 := hgr2.thenx g3 fun x e => own_ge own2 x e
      have hz3 := hgr3.size
      have hGW3 := hgr3.hG hgs0 hGW0
      have hgs3 : Try.prog.globals.size ≤ w3.heap.size := by omega
      have e3 : iv out ++ [Value.int .i64 k] = iv (out ++ [(k : Int)]) := by rw [iv_append]; rfl
      have own4 : OwnI w3 pw.heap.size v' (out ++ [(k : Int)]) := by
        unfold OwnI
        rw [List.length_append, List.length_singleton, ← e3]
        exact own3
      clear own3 own2 g3 hgr2 g2 h2 f2 l2 z2 e3 hGW2 hz2 hgr hown hGW hgs
      walk_nrm
      refine opsW_read calmM hGW3 hgs3 rfl rfl rfl (fun κ t d K hK => ?_)
      go_simp
      refine hK _ ?_
      clear hK
      walk_nrm
      refine opsW_nil ?_
      show wpW _ _ _ _ _ _ _ _ _ _ _
      refine wpW_region ?_
      simp only [List.size_toArray, List.length_cons, List.length_nil, Nat.reduceAdd, Nat.zero_add, List.range, List.range.loop]
      have hwr : IntKind.i64.wrap ((k : Int) + 1) = ((k + 1 : Nat) : Int) := by rw [IntKind.wrap_i64]; omega
      refine opsW_read calmM hGW3 hgs3 rfl rfl rfl (fun κ t d K hK => ?_)
      go_simp
      refine hK _ ?_
      clear hK
      walk_nrm
      refine opsW_read calmM hGW3 hgs3 rfl rfl rfl (fun κ t d K hK => ?_)
      go_simp
      refine hK _ ?_
      clear hK
      walk_nrm
      refine opsW_nil ⟨⟨k + 1, by omega, _, v', out ++ [(k : Int)], rfl, rfl, rfl, rfl, rfl, rfl, by simp, own4, (HS.out.1 hp).symm, hgr3⟩, ?_⟩
      simp [intOf]
      omega
    · have hpx : decide (x > 0) = false := by simp; omega
      refine opsW_read calmM hGW hgs rfl rfl rfl (fun κ t d K hK => ?_)
      go_simp
      refine hK _ ?_
      clear hK
      walk_nrm
      refine opsW_read calmM hGW hgs rfl rfl rfl (fun κ t d K hK => ?_)
      go_simp
      refine hK _ ?_
      clear hK
      walk_nrm
      refine opsW_nil ?_
      show wpW _ _ _ _ _ _ _ _ _ _ _
      refine wpW_cond (t := false) (by first | rfl | (simp [Act.eval]; omega)) ?_
      simp only [Bool.false_eq_true, ↓reduceIte]
      refine wpW_skip ?_
      show wpW _ _ _ _ _ _ _ _ _ _ _
      refine wpW_region ?_
      simp only [List.size_toArray, List.length_cons, List.length_nil, Nat.reduceAdd, Nat.zero_add, List.range, List.range.loop]
      have hwr : IntKind.i64.wrap ((k : Int) + 1) = ((k + 1 : Nat) : Int) := by rw [IntKind.wrap_i64]; omega
      refine opsW_read calmM hGW hgs rfl rfl rfl (fun κ t d K hK => ?_)
      go_simp
      refine hK _ ?_
      clear hK
      walk_nrm
      refine opsW_read calmM hGW hgs rfl rfl rfl (fun κ t d K hK => ?_)
      go_simp
      refine hK _ ?_
      clear hK
      walk_nrm
      refine opsW_nil ⟨⟨k + 1, by omega, _, v5, out, rfl, rfl, rfl, rfl, rfl, rfl, by simp, hown, (HS.out.2 hp).symm, hgr⟩, ?_⟩
      simp [intOf]
      omega
  · obtain rfl : k = n := by omega
    have hlt1 : decide ((k : Int) < (k : Int)) = false := by simp
    refine opsW_read calmM hGW hgs rfl rfl rfl (fun κ t d K hK => ?_)
    go_simp
    refine hK _ ?_
    clear hK
    walk_nrm
    refine opsW_nil ?_
    show wpW _ _ _ _ _ _ _ _ _ _ _
    refine wpW_seq ?_
    refine wpW_cond (t := false) (by first | rfl | (simp [Act.eval]; omega)) ?_
    simp only [Bool.false_eq_true, ↓reduceIte]
    refine wpW_exit ?_
    show wpW _ _ _ _ _ _ _ _ _ _ _
    obtain ⟨m, hm⟩ : ∃ m, out.length = m := ⟨_, rfl⟩
    obtain ⟨p2, c2, rfl, h1, h2, hin2, _⟩ := hown.shape hm
    refine wpW_seq (wpW_seq (wpW_region ?_))
    simp only [List.size_toArray, List.length_cons, List.length_nil, Nat.reduceAdd, Nat.zero_add, List.range, List.range.loop]
    by_cases h0 : m = 0
    · have HT := Lib.hid (turnT_none (left := left) (by rw [HN.out, ← ho, hm, h0]) pick)
      subst h0
      have HO := Lib.hid ho
      have HM := Lib.hid hm
      clear ho hm
      refine opsW_read calmM hGW hgs rfl rfl rfl (fun κ t d K hK => ?_)
      go_simp
      refine hK _ ?_
      clear hK
      walk_nrm
      refine opsW_read calmM hGW hgs rfl rfl rfl (fun κ t d K hK => ?_)
      go_simp
      refine hK _ ?_
      clear hK
      walk_nrm
      refine opsW_read calmM hGW hgs rfl rfl rfl (fun κ t d K hK => ?_)
      go_simp
      refine hK _ ?_
      clear hK
      walk_nrm
      refine opsW_nil ?_
      show wpW _ _ _ _ _ _ _ _ _ _ _
      refine wpW_cond (t := true) (by first | rfl | (simp [Act.eval]; omega)) ?_
      simp only [↓reduceIte]
      refine wpW_seq (wpW_region ?_)
      simp only [List.size_toArray, List.length_cons, List.length_nil, Nat.zero_add, List.range, List.range.loop]
      refine opsW_read calmM hGW hgs rfl rfl rfl (fun κ t d K hK => ?_)
      go_simp
      refine hK _ ?_
      clear hK
      walk_nrm
      refine opsW_nil ?_
      show wpW _ _ _ _ _ _ _ _ _ _ _
      refine wpW_ret ?_
      refine hQ _ _ _ rfl ?_
      have := hend σ1 w1 hgr
      rw [HT.out] at this
      exact this
    · obtain ⟨j, hj, h4, hj2⟩ := turnT_some ho HN.out hm h0 pick
      have h3 : j < out.length := by omega
      obtain ⟨b, o, rfl, hc⟩ := hin2.at h3
      have HT := Lib.hid (h4 h3)
      have HO := Lib.hid ho
      have HM := Lib.hid hm
      clear ho hm h4
      generalize out[j] = y at hc HT
      have hm1 : (0 : Int) < (m : Int) := by omega
      have hm0 : decide ((m : Int) = 0) = false := by simp; omega
      refine opsW_read calmM hGW hgs rfl rfl rfl (fun κ t d K hK => ?_)
      go_simp
      refine hK _ ?_
      clear hK
      walk_nrm
      refine opsW_read calmM hGW hgs rfl rfl rfl (fun κ t d K hK => ?_)
      go_simp
      refine hK _ ?_
      clear hK
      walk_nrm
      refine opsW_read calmM hGW hgs rfl rfl rfl (fun κ t d K hK => ?_)
      go_simp
      refine hK _ ?_
      clear hK
      walk_nrm
      refine opsW_nil ?_
      show wpW _ _ _ _ _ _ _ _ _ _ _
      refine wpW_cond (t := false) (by first | rfl | (simp [Act.eval]; omega)) ?_
      simp only [Bool.false_eq_true, ↓reduceIte]
      refine wpW_skip ?_
      show wpW _ _ _ _ _ _ _ _ _ _ _
      refine wpW_seq (wpW_region ?_)
      simp only [List.size_toArray, List.length_cons, List.length_nil, Nat.reduceAdd, Nat.zero_add, List.range, List.range.loop]
      by_cases hp : pick < 0
      · obtain rfl := hj2.1 hp
        clear hj2
        rw [Nat.add_zero] at hc
        refine opsW_read calmM hGW hgs rfl rfl rfl (fun κ t d K hK => ?_)
        go_simp
        refine hK _ ?_
        clear hK
        walk_nrm
        refine opsW_read calmM hGW hgs rfl rfl rfl (fun κ t d K hK => ?_)
        go_simp
        refine hK _ ?_
        clear hK
        walk_nrm
        refine opsW_read calmM hGW hgs rfl rfl rfl (fun κ t d K hK => ?_)
        go_simp
        refine hK _ ?_
        clear hK
        walk_nrm
        refine opsW_read calmM hGW hgs rfl rfl rfl (fun κ t d K hK => ?_)
        go_simp
        refine hK _ ?_
        clear hK
        walk_nrm
        refine opsW_read calmM hGW hgs rfl rfl rfl (fun κ t d K hK => ?_)
        go_simp
        refine hK _ ?_
        clear hK
        walk_nrm
        refine opsW_read calmM hGW hgs rfl rfl rfl (fun κ t d K hK => ?_)
        go_simp
        refine hK _ ?_
        clear hK
        walk_nrm
        refine opsW_read calmM hGW hgs rfl rfl rfl (fun κ t d K hK => ?_)
        go_simp
        refine hK _ ?_
        clear hK
        walk_nrm
        refine opsW_read calmM hGW hgs rfl rfl rfl (fun κ t d K hK => ?_)
        have hx := grW_cell (P := Try.prog) (k := κ) hc (t := t) (d := d)
        go_simp
        refine hK _ ?_
        clear hK hx
        walk_nrm
        refine opsW_read calmM hGW hgs rfl rfl rfl (fun κ t d K hK => ?_)
        go_simp
        refine hK _ ?_
        clear hK
        walk_nrm
        refine opsW_nil ?_
        show wpW _ _ _ _ _ _ _ _ _ _ _
        refine wpW_ret ?_
        refine hQ _ _ _ rfl ?_
        have := hend σ1 w1 hgr
        rw [HT.out] at this
        exact this
      · have hq := hj2.2 hp
        clear hj2
        refine opsW_read calmM hGW hgs rfl rfl rfl (fun κ t d K hK => ?_)
        go_simp
        refine hK _ ?_
        clear hK
        walk_nrm
        refine opsW_read calmM hGW hgs rfl rfl rfl (fun κ t d K hK => ?_)
        go_simp
        refine hK _ ?_
        clear hK
        walk_nrm
        refine opsW_read calmM hGW hgs rfl rfl rfl (fun κ t d K hK => ?_)
        go_simp
        refine hK _ ?_
        clear hK
        walk_nrm
        refine opsW_read calmM hGW hgs rfl rfl rfl (fun κ t d K hK => ?_)
        go_simp
        refine hK _ ?_
        clear hK
        walk_nrm
        refine opsW_read calmM hGW hgs rfl rfl rfl (fun κ t d K hK => ?_)
        go_simp
        refine hK _ ?_
        clear hK
        walk_nrm
        refine opsW_read calmM hGW hgs rfl rfl rfl (fun κ t d K hK => ?_)
        go_simp
        refine hK _ ?_
        clear hK
        walk_nrm
        refine opsW_read calmM hGW hgs rfl rfl rfl (fun κ t d K hK => ?_)
        go_simp
        refine hK _ ?_
        clear hK
        walk_nrm
        refine opsW_read calmM hGW hgs rfl rfl rfl (fun κ t d K hK => ?_)
        have hx := grW_cell (P := Try.prog) (k := κ) hc (t := t) (d := d)
        go_simp
        refine hK _ ?_
        clear hK hx
        walk_nrm
        refine opsW_read calmM hGW hgs rfl rfl rfl (fun κ t d K hK => ?_)
        go_simp
        refine hK _ ?_
        clear hK
        walk_nrm
        refine opsW_nil ?_
        show wpW _ _ _ _ _ _ _ _ _ _ _
        refine wpW_ret ?_
        refine hQ _ _ _ rfl ?_
        have := hend σ1 w1 hgr
        rw [HT.out] at this
        exact this
end
end Go.Proofs.Ytmllcfkgkkbkpaa.Pr
