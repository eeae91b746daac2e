/-
  MuxStreams: a round of the inner loop.
-/
import Derived.Test.YtmllcfkgkkbkpaaPk6
import Derived.Test.YtmllcfkgkkbkpaaHvStmA
import Derived.Test.YtmllcfkgkkbkpaaHvStmD
namespace Go.Proofs.Ytmllcfkgkkbkpaa
open Go Go.Conc Go.RowKit Go.Conc.Lib Go.ConcR.Gen
open Go.ConcN (upd upd_ne upd_same WgLive)
open Go.ConcR (KK wgBlock WgAt stA smA rd wr mk DC0)
theorem calmPA : calmCode ptM SM cvM pASt = true := by kernel_rfl
theorem calmP22 : calmCode ptM SM cvM p22St = true := by kernel_rfl
theorem calmP23 : calmCode ptM SM cvM p23St = true := by kernel_rfl
theorem re_eq {w' w : World} {t t' : Nat → Question → Nat} {d d' : Nat} (h : w'.re t' d' = w.re t d) : w'.heap = w.heap ∧ w'.os = w.os ∧ w'.output = w.output :=
  ⟨show (w'.re t' d').heap = (w.re t d).heap from by rw [h], show (w'.re t' d').os = (w.re t d).os from by rw [h], show (w'.re t' d').output = (w.re t d).output from by rw [h]⟩
/-- The boxes that the two loops read. -/
structure Fx (w : World) (r stop : Int) (b5 b8 b11 b12 : Nat) (p8 p11 : Option Addr) (m c8 c11 : Nat) (W Tn : List Int) : Prop where
  c5 : w.heap[b5]? = some (.cells #[.int .i64 stop] 3)
  c8 : w.heap[b8]? = some (.cells #[.slice p8 m c8] 23)
  c11 : w.heap[b11]? = some (.cells #[.slice p11 m c11] 23)
  c12 : w.heap[b12]? = some (.cells #[.int .i64 r] 3)
  r8 : InI w p8 W
  r11 : InI w p11 Tn
def FxB (b5 b8 b11 b12 : Nat) (p8 p11 : Option Addr) (m : Nat) (x : Nat) : Prop :=
  x = b5 ∨ x = b8 ∨ x = b11 ∨ x = b12 ∨ (0 < m ∧ ∃ a, p8 = some a ∧ a.block = x) ∨ (0 < m ∧ ∃ a, p11 = some a ∧ a.block = x)
section
variable {r stop : Int} {b5 b8 b11 b12 b13 : Nat} {p8 p11 : Option Addr} {m c8 c11 : Nat} {W Tn : List Int}
theorem Fx.keep {w w' : World} (h : Fx w r stop b5 b8 b11 b12 p8 p11 m c8 c11 W Tn) (hW : W.length = m) (hT : Tn.length = m) (hk : ∀ x, FxB b5 b8 b11 b12 p8 p11 m x → w'.heap[x]? = w.heap[x]?) : Fx w' r stop b5 b8 b11 b12 p8 p11 m c8 c11 W Tn :=
  ⟨(hk _ (.inl rfl)).trans h.c5, (hk _ (.inr (.inl rfl))).trans h.c8, (hk _ (.inr (.inr (.inl rfl)))).trans h.c11, (hk _ (.inr (.inr (.inr (.inl rfl))))).trans h.c12,
    InV.keep h.r8 fun a e h0 => hk _ (.inr (.inr (.inr (.inr (.inl ⟨by rw [iv_length, hW] at h0; exact h0, a, e, rfl⟩))))), InV.keep h.r11 fun a e h0 => hk _ (.inr (.inr (.inr (.inr (.inr ⟨by rw [iv_length, hT] at h0; exact h0, a, e, rfl⟩)))))⟩
theorem Fx.low {w : World} (h : Fx w r stop b5 b8 b11 b12 p8 p11 m c8 c11 W Tn) (hW : W.length = m) (hT : Tn.length = m) : ∀ x, FxB b5 b8 b11 b12 p8 p11 m x → x < w.heap.size := by
  rintro x (rfl | rfl | rfl | rfl | ⟨h0, a, e, rfl⟩ | ⟨h0, a, e, rfl⟩)
  · exact (Array.getElem?_eq_some_iff.1 h.c5).1
  · exact (Array.getElem?_eq_some_iff.1 h.c8).1
  · exact (Array.getElem?_eq_some_iff.1 h.c11).1
  · exact (Array.getElem?_eq_some_iff.1 h.c12).1
  · exact h.r8.low a e (by rw [iv_length, hW]; exact h0)
  · exact h.r11.low a e (by rw [iv_length, hT]; exact h0)
variable (r stop b5 b8 b11 b12 b13 p8 p11 m c8 c11 W Tn) in
/-- What a round finds. -/
def StI (B : Nat → Prop) (d : List (Nat × Value)) (w : World) : Prop :=
  Fx w r stop b5 b8 b11 b12 p8 p11 m c8 c11 W Tn ∧ w.heap[b13]? = some (.cells #[.int .i64 (d.length : Nat)] 3) ∧ ∀ x, B x ↔ FxB b5 b8 b11 b12 p8 p11 m x ∨ x = b13
theorem StI.stab (hW : W.length = m) (hT : Tn.length = m) : Stable (StI r stop b5 b8 b11 b12 b13 p8 p11 m c8 c11 W Tn) := by
  rintro B d w w' ⟨h1, h2, h3⟩ hk _
  exact ⟨h1.keep hW hT fun x hx => hk x ((h3 x).2 (.inl hx)), (hk _ ((h3 _).2 (.inr rfl))).trans h2, h3⟩
variable {Post : Value → World → Prop}
set_option maxRecDepth 100000 in
set_option maxHeartbeats 8000000 in
theorem stm_round {l : Nat} {T : Array Value} {x6 x7 x14 x15 : Value} {All : List (Nat × Value)} (hT : Tm T (.pointer (some ⟨b5, 0, none⟩)) x6 x7 (.pointer (some ⟨b8, 0, none⟩)) (.pointer (some ⟨b11, 0, none⟩)) (.pointer (some ⟨b12, 0, none⟩)) (.pointer (some ⟨b13, 0, none⟩)) x14 x15) (hW : W.length = m) (hTn : Tn.length = m) (hm : m ≤ 100000000000) (hr : r = 0 ∨ r = 1) (hne : ∀ x, FxB b5 b8 b11 b12 p8 p11 m x → x ≠ b13)
    (hget : ∀ (k i : Nat) (v : Value), All[k]? = some (i, v) → ∃ y, v = .int .i64 y ∧ W[k]? = some y ∧ Tn[k]? = some ((i : Nat) : Int)) :
    RoundOk Post 5 l 4 All (StI r stop b5 b8 b11 b12 b13 p8 p11 m c8 c11 W Tn) (fun B d w => StI r stop b5 b8 b11 b12 b13 p8 p11 m c8 c11 W Tn B d w ∧ r = 0 ∧ (d.length : Int) - 1 = stop) T #[51, 52] asSt bdSt := by
  rintro B dn i v rest σ pw hAll hI hB hF
  have hG : ∀ b, σ.F b → Try.prog.globals.size ≤ b := fun b hb => (hF b hb).1
  have hkA : All[dn.length]? = some (i, v) := by rw [hAll]; simp
  obtain ⟨y, rfl, hWk, hTk⟩ := hget _ _ _ hkA
  clear hget hkA hAll
  obtain ⟨v0, v1, v2, v3, v4, v9, v10, v16, v17, v18, v19, v20, v21, v22, v23, v24, v25, v26, v27, v28, v29, v30, v31, v32, v33, v34, v35, v36, v37, v38, v39, v40, v41, v42, v43, v44, v45, v46, v47, v48, v49, v50, v51, v52, v53, v54, v55, v56, v57, v58, v59, v60, v61, v62, v63, v64, v65, v66, v67, v68, v69, v70, v71, v72, v73, v74, v75, v76, v77, v78, v79, v80, v81, v82, v83, v84, v85, v86, v87, v88, v89, v90, v91, v92, v93, v94, v95, v96, v97, rfl⟩ := hT.open
  clear hT
  obtain ⟨c, hbd, hcv⟩ := bdSt_eq
  rw [hbd]
  simp only [asSt, rfSt, rcSt, lpSt, bodySt, Try.f5, Option.getD_some]
  refine wpM_seq (wpM_region ?_)
  simp only [List.size_toArray, List.length_cons, List.length_nil, Nat.zero_add, List.range, List.range.loop]
  refine opsM_k calmM hG rfl rfl rfl (fun t d K hK => ?_)
  go_simp
  refine hK _ _ (opsM_re ?_)
  clear hK
  walk_nrm
  refine opsM_nil ?_
  show wpM _ _ _ _ _ _ _ _ _ _ _
  refine wpM_region ?_
  simp only [List.size_toArray, List.length_cons, List.length_nil, Nat.zero_add, List.range, List.range.loop]
  refine opsM_k calmM hG rfl rfl rfl (fun t d K hK => ?_)
  go_simp
  refine hK _ _ (opsM_re ?_)
  clear hK
  walk_nrm
  refine opsM_nil ⟨rfl, rfl, rfl, fun w3 hI3 hsz3 => ?_⟩
  clear hI
  obtain ⟨hFx, h13, hBx⟩ := hI3
  obtain ⟨k, hk⟩ : ∃ k, k = dn.length := ⟨_, rfl⟩
  rw [← hk] at h13 hWk hTk
  have hkm : k < m := by rw [← hW]; exact (List.getElem?_eq_some_iff.1 hWk).1
  have hkW : k < W.length := by rw [hW]; exact hkm
  have hkT : k < Tn.length := by rw [hTn]; exact hkm
  have h13s : b13 < w3.heap.size := (Array.getElem?_eq_some_iff.1 h13).1
  have hB3 : ∀ x, B x → x < w3.heap.size := fun x hx => by
    rcases (hBx x).1 hx with h | rfl
    · exact hFx.low hW hTn x h
    · exact h13s
  obtain ⟨q8, o8, rfl, hc8⟩ := hFx.r8.at hkW
  obtain ⟨q11, o11, rfl, hc11⟩ := hFx.r11.at hkT
  rw [List.getElem?_eq_getElem hkW] at hWk
  rw [List.getElem?_eq_getElem hkT] at hTk
  rw [Option.some.inj hWk] at hc8
  rw [Option.some.inj hTk] at hc11
  have hk9 : k < 1000000000000 := by omega
  obtain ⟨h13c, h13f⟩ := cell_row1 h13
  refine wpM_block ?_
  refine wpM_seq (wpM_piece calmM hG calmPA (noRet_true _) (R := fun t d a' w' => Tm a'.tmps (.pointer (some ⟨b5, 0, none⟩)) x6 x7 (.pointer (some ⟨b8, 0, none⟩)) (.pointer (some ⟨b11, 0, none⟩)) (.pointer (some ⟨b12, 0, none⟩)) (.pointer (some ⟨b13, 0, none⟩)) (.int .i64 ((i : Nat) : Int)) (.int .i64 y) ∧ a'.defers = [] ∧ w' = (w3).re t d) (fun t d => pA_lone (w3.re t d) (Tm.mk rfl rfl rfl rfl rfl rfl rfl rfl rfl rfl) h13c (cell_row1 hFx.c8).1 (cell_row1 hFx.c11).1 hkm hc8 hc11 (by omega)) (fun a' w4 hR => ?_))
  obtain ⟨t, d, t', d', hT, hd, hw⟩ := hR
  obtain ⟨T, D⟩ := a'
  simp only at hd hT
  subst hd
  obtain ⟨ew4, ow4, uw4⟩ := re_eq hw
  clear hw
  show wpM _ _ _ _ _ _ _ _ _ _ _
  have h134 : w4.heap[b13]? = some (.cells #[.int .i64 (k : Nat)] 3) := by rw [ew4]; exact h13
  obtain ⟨h13c4, h13f4⟩ := cell_row1 h134
  refine wpM_seq (wpM_piece calmM hG calmP22 (noRet_true _) (R := fun t d a' w' => Tm a'.tmps (.pointer (some ⟨b5, 0, none⟩)) x6 x7 (.pointer (some ⟨b8, 0, none⟩)) (.pointer (some ⟨b11, 0, none⟩)) (.pointer (some ⟨b12, 0, none⟩)) (.pointer (some ⟨b13, 0, none⟩)) (.int .i64 ((i : Nat) : Int)) (.int .i64 y) ∧ a'.defers = [] ∧ w' = (w4.setCell ⟨b13, 0, none⟩ (.int .i64 ((k : Int) + 1))).re t d) (fun t d => p22_lone (w4.re t d) hT h13c4 h13f4 hk9) (fun a' w5 hR => ?_))
  obtain ⟨t, d, t', d', hT, hd, hw⟩ := hR
  obtain ⟨T, D⟩ := a'
  simp only at hd hT
  subst hd
  obtain ⟨ew5, ow5, uw5⟩ := re_eq hw
  clear hw
  show wpM _ _ _ _ _ _ _ _ _ _ _
  have h135 : w5.heap[b13]? = some (.cells #[.int .i64 ((k : Int) + 1)] 3) := by
    rw [ew5, heap_setCell_same w4 b13 0 _ _ _ h134]
    rfl
  have hoth : ∀ x, x ≠ b13 → w5.heap[x]? = w3.heap[x]? := fun x hx => by
    rw [ew5, heap_setCell_other w4 ⟨b13, 0, none⟩ x _ hx, ew4]
  have hF5 : Fx w5 r stop b5 b8 b11 b12 (some ⟨q8, o8, none⟩) (some ⟨q11, o11, none⟩) m c8 c11 W Tn := hFx.keep hW hTn fun x hx => hoth x (hne x hx)
  have hsz5 : w5.heap.size = w3.heap.size := by
    rw [ew5]
    have : (w4.setCell ⟨b13, 0, none⟩ (.int .i64 ((k : Int) + 1))).heap.size = w4.heap.size := by simp
    rw [this, ew4]
  refine wpM_seq (wpM_piece calmM hG calmP23 (noRet_true _) (R := fun t d a' w' => (Tm a'.tmps (.pointer (some ⟨b5, 0, none⟩)) x6 x7 (.pointer (some ⟨b8, 0, none⟩)) (.pointer (some ⟨b11, 0, none⟩)) (.pointer (some ⟨b12, 0, none⟩)) (.pointer (some ⟨b13, 0, none⟩)) (.int .i64 ((i : Nat) : Int)) (.int .i64 y) ∧ a'.tmps.getD 82 undef = .bool (decide (r = 0 ∧ (k : Int) = stop))) ∧ a'.defers = [] ∧ w' = (w5).re t d) (fun t d => p23_lone (w5.re t d) hT (cell_row1 h135).1 (cell_row1 hF5.c12).1 (cell_row1 hF5.c5).1 hk9 hr) (fun a' w6 hR => ?_))
  obtain ⟨t, d, t', d', hT, hd, hw⟩ := hR
  obtain ⟨T, D⟩ := a'
  simp only at hd hT
  subst hd
  obtain ⟨ew6, ow6, uw6⟩ := re_eq hw
  clear hw
  show wpM _ _ _ _ _ _ _ _ _ _ _
  obtain ⟨_, h82⟩ := hT
  have hend : StI r stop b5 b8 b11 b12 b13 (some ⟨q8, o8, none⟩) (some ⟨q11, o11, none⟩) m c8 c11 W Tn B (dn ++ [(i, .int .i64 y)]) w6 ∧ Grew B w3 B w6 := by
    refine ⟨⟨hF5.keep hW hTn fun x _ => by rw [ew6], ?_, hBx⟩, ⟨by rw [ew6, hsz5]; exact Nat.le_refl _, fun x _ hnB => ?_, fun x hx => ⟨by rw [ew6, hsz5]; exact hB3 x hx, .inl hx⟩, ?_, ?_⟩⟩
    · rw [ew6, h135, List.length_append, List.length_singleton, ← hk]
      rfl
    · rw [ew6, hoth x fun e => hnB ((hBx x).2 (.inr e))]
    · rw [ow6, ow5]
      exact ow4
    · rw [uw6, uw5]
      exact uw4
  refine wpM_cond (t := decide (r = 0 ∧ (k : Int) = stop)) ((hcv _).trans h82) ?_
  by_cases hs : r = 0 ∧ (k : Int) = stop
  · simp only [decide_eq_true hs, ↓reduceIte]
    refine wpM_exit ?_
    refine ⟨rfl, .inr ⟨rfl, B, ⟨hend.1, hs.1, ?_⟩, hend.2⟩⟩
    rw [List.length_append, List.length_singleton, ← hk, ← hs.2]
    omega
  · simp only [decide_eq_false hs, Bool.false_eq_true, ↓reduceIte]
    exact wpM_skip ⟨rfl, .inl ⟨rfl, B, hend⟩⟩
end
end Go.Proofs.Ytmllcfkgkkbkpaa
/-
  MuxStreams: the two rounds of the outer loop.
-/
namespace Go.Proofs.Ytmllcfkgkkbkpaa
open Go Go.Conc Go.RowKit Go.Conc.Lib Go.ConcR.Gen
open Go.ConcN (upd upd_ne upd_same WgLive)
open Go.ConcR (KK wgBlock WgAt stA smA rd wr mk DC0)
theorem calmR14 : calmCode ptM SM cvM r14St = true := by kernel_rfl
theorem calmR16 : calmCode ptM SM cvM r16St = true := by kernel_rfl
theorem calmR17 : calmCode ptM SM cvM r17St = true := by kernel_rfl
theorem calmP24 : calmCode ptM SM cvM p24St = true := by kernel_rfl
theorem calmP15 : calmCode ptM SM cvM p15St = true := by kernel_rfl
section
variable {P : Program} {ty : TypeId} {z z' : Value} {Post : Value → World → Prop} {fn : Frame → Prop} {Q : Exit → Act → Ph → World → Prop} {a : Act} {σ : Ph} {pw : World}
/-- A loop, by what is left of it. -/
theorem wpM_loopN {c : Code} (J : Nat → Act → Ph → World → Prop) {n : Nat} (h₀ : J n a σ pw) (round : ∀ n a σ pw, J n a σ pw → wpM P ty z z' Post fn c (thenM (fun a' σ' pw' => ∃ m, m < n ∧ J m a' σ' pw') Q) a σ pw) : wpM P ty z z' Post fn (.loop c) Q a σ pw := by
  intro b k cs hb hk hc
  have key : ∀ N n a σ pw, n ≤ N → J n a σ pw → MV P ty z z' Post σ (G (b.atR a (.code c :: .inLoop c :: k)) cs) pw := by
    intro N
    induction N with
    | zero =>
      intro n a σ pw hμ hI
      refine round n a σ pw hI b (.inLoop c :: k) cs hb hk fun e a' σ' pw' q => ?_
      cases e with
      | normal =>
        obtain ⟨m, hm, _⟩ := q
        exact absurd hm (by omega)
      | exit id => exact (hc _ _ _ _ q).push (by simp) (by simp)
      | ret => exact (hc _ _ _ _ q).push (x := .inLoop c) (by simp) (by simp)
      | goto l => exact hc _ _ _ _ q
      | panic ch => exact hc _ _ _ _ q
      | outgrown => exact hc _ _ _ _ q
    | succ N ih =>
      intro n a σ pw hμ hI
      refine round n a σ pw hI b (.inLoop c :: k) cs hb hk fun e a' σ' pw' q => ?_
      cases e with
      | normal =>
        obtain ⟨m, hm, hJ⟩ := q
        exact mv_ctl rfl (fun w => by simp [G, stepG, stepG.exec, Frame.atR]) (ih m a' σ' pw' (by omega) hJ)
      | exit id => exact (hc _ _ _ _ q).push (by simp) (by simp)
      | ret => exact (hc _ _ _ _ q).push (x := .inLoop c) (by simp) (by simp)
      | goto l => exact hc _ _ _ _ q
      | panic ch => exact hc _ _ _ _ q
      | outgrown => exact hc _ _ _ _ q
  exact mv_ctl rfl (fun w => by simp [G, stepG, stepG.exec, Frame.atR]) (key _ n a σ pw (Nat.le_refl _) h₀)
end
/-- Where the outer loop stands. -/
structure LJ (σ0 : Ph) (w0 : World) (N m c8 c11 : Nat) (stop : Int) (b5 b6 b8 b11 bo bp g pn pc S2 : Nat) (p8 p11 pa : Option Addr) (W Tn picks : List Int) (L : List (List Int)) (b12 : Nat) (ds : List Nat) (r : Int) (q : Nat) (T : Array Value) (σ : Ph) (w : World) : Prop where
  tm : ∃ x13 x14 x15, Tm T (.pointer (some ⟨b5, 0, none⟩)) (.pointer (some ⟨b6, 0, none⟩)) (.func (.func 22) #[] #[.pointer (some ⟨bo, 0, none⟩), .pointer (some ⟨bp, 0, none⟩)]) (.pointer (some ⟨b8, 0, none⟩)) (.pointer (some ⟨b11, 0, none⟩)) (.pointer (some ⟨b12, 0, none⟩)) x13 x14 x15
  since : Since σ0 w0 σ w q
  s2 : S2 ≤ w.heap.size
  fx : Fx w (r) stop b5 b8 b11 b12 p8 p11 m c8 c11 W Tn
  fb : ∀ x, FxB b5 b8 b11 b12 p8 p11 m x → ¬ σ.F x ∧ (x = b5 ∨ S2 ≤ x)
  r6 : w.heap[b6]? = some (.cells #[.bool false] 4) ∧ ¬ σ.F b6
  cbo : w.cell? ⟨bo, 0, none⟩ = some (.slice (some ⟨g, 0, none⟩) N N)
  own : OwnAt σ w (some ⟨g, 0, none⟩) N (L.map iv)
  cbp : w.cell? ⟨bp, 0, none⟩ = some (.slice pa pn pc)
  pk : InI w pa picks
  nd : ds.Nodup
  marks : ∀ x ∈ ds, S2 ≤ x ∧ ¬ σ.F x ∧ w.heap[x]? = some (.deferred (some [])) ∧ ¬ FxB b5 b8 b11 b12 p8 p11 m x
section
variable {σ0 : Ph} {w0 : World} {N m c8 c11 : Nat} {stop : Int} {b5 b6 b8 b11 bo bp g pn pc S2 : Nat} {p8 p11 pa : Option Addr} {W Tn picks : List Int} {L : List (List Int)} {b12 : Nat} {ds : List Nat} {r : Int} {q : Nat} {T : Array Value} {σ : Ph} {w : World}
theorem LJ.grow {T' : Array Value} {w' : World} (h : LJ σ0 w0 N m c8 c11 stop b5 b6 b8 b11 bo bp g pn pc S2 p8 p11 pa W Tn picks L b12 ds r q T σ w) (hW : W.length = m) (hTn : Tn.length = m) (hT : ∃ x13 x14 x15, Tm T' (.pointer (some ⟨b5, 0, none⟩)) (.pointer (some ⟨b6, 0, none⟩)) (.func (.func 22) #[] #[.pointer (some ⟨bo, 0, none⟩), .pointer (some ⟨bp, 0, none⟩)]) (.pointer (some ⟨b8, 0, none⟩)) (.pointer (some ⟨b11, 0, none⟩)) (.pointer (some ⟨b12, 0, none⟩)) x13 x14 x15) (hk : ∀ x, x < w.heap.size → w'.heap[x]? = w.heap[x]?) (hs : w.heap.size ≤ w'.heap.size) (ho : w'.os = w.os) (hu : w'.output = w.output) :
    LJ σ0 w0 N m c8 c11 stop b5 b6 b8 b11 bo bp g pn pc S2 p8 p11 pa W Tn picks L b12 ds r q T' σ w' := by
  have hlt : ∀ {x : Nat} {o : Obj}, w.heap[x]? = some o → w'.heap[x]? = some o := fun {x o} hx => (hk x (Array.getElem?_eq_some_iff.1 hx).1).trans hx
  have hc : ∀ {x : Nat} {v : Value}, w.cell? ⟨x, 0, none⟩ = some v → w'.cell? ⟨x, 0, none⟩ = some v := fun {x v} hx => (World.cell?_of_block (hk _ (World.block_lt_of_cell? w _ hx))).trans hx
  exact ⟨hT, h.since.step hs (fun x hx => hk x (by have := h.since.size; omega)) ho hu, Nat.le_trans h.s2 hs, h.fx.keep hW hTn fun x hx => hk x (h.fx.low hW hTn x hx), h.fb, ⟨hlt h.r6.1, h.r6.2⟩, hc h.cbo,
    h.own.later (fun _ _ h => h) (fun _ _ h => h) (fun ad _ h => hk _ h) hs, hc h.cbp, h.pk.keep fun a e h0 => hk _ (h.pk.low a e h0), h.nd, fun x hx => let ⟨h1, h2, h3, h4⟩ := h.marks x hx; ⟨h1, h2, hlt h3, h4⟩⟩
variable (σ0 w0 N m c8 c11 stop b5 b6 b8 b11 bo bp g pn pc S2 p8 p11 pa W Tn picks L) in
def JJ (n : Nat) (a : Act) (σ : Ph) (w : World) : Prop :=
  n ≤ 2 ∧ ∃ b12 ds T, a = ⟨T, ds.map markD⟩ ∧ LJ σ0 w0 N m c8 c11 stop b5 b6 b8 b11 bo bp g pn pc S2 p8 p11 pa W Tn picks L b12 ds (2 - (n : Int)) (n * N) T σ w
variable {Post : Value → World → Prop} {Q : Exit → Act → Ph → World → Prop} {a : Act}
set_option maxRecDepth 100000 in
set_option maxHeartbeats 8000000 in
theorem stm_outer {n S1 : Nat} (hJ : JJ σ0 w0 N m c8 c11 stop b5 b6 b8 b11 bo bp g pn pc S2 p8 p11 pa W Tn picks L n a σ w) (hW : W.length = m) (hTn : Tn.length = m) (hm : m ≤ 100000000000) (htot : total L = m) (hpn : picks.length = pn)
    (hst : w0.heap.size ≤ b5 ∧ b5 < S1 ∧ w0.heap.size ≤ b6 ∧ b6 < S1 ∧ b5 ≠ b6 ∧ S1 ≤ bo ∧ bo < S2 ∧ S1 ≤ bp ∧ bp < S2 ∧ S1 ≤ g ∧ g < S2) (hpa : ∀ ad, pa = some ad → S1 ≤ ad.block ∧ ad.block < S2)
    (hget : ∀ (k i : Nat) (v : Value), (things (L.map iv) picks 0)[k]? = some (i, v) → ∃ y, v = .int .i64 y ∧ W[k]? = some y ∧ Tn[k]? = some ((i : Nat) : Int))
    (hx : ∀ a σ w, JJ σ0 w0 N m c8 c11 stop b5 b6 b8 b11 bo bp g pn pc S2 p8 p11 pa W Tn picks L 0 a σ w → Q (.exit 2) a σ w) :
    wpM Try.prog wtG zI zS Post (fun b => b.fn = 5 ∧ b.roundOf = none) rcSt (thenM (fun a' σ' pw' => ∃ m', m' < n ∧ JJ σ0 w0 N m c8 c11 stop b5 b6 b8 b11 bo bp g pn pc S2 p8 p11 pa W Tn picks L m' a' σ' pw') Q) a σ w := by
  obtain ⟨hn2, b12, ds, T, rfl, hL⟩ := hJ
  obtain ⟨c47, c50, hrc, h47, h50⟩ := rcSt_eq
  rw [hrc]
  have hG : ∀ b, σ.F b → Try.prog.globals.size ≤ b := fun b hb => (hL.since.idle.fb b hb).1
  obtain ⟨r, hr⟩ : ∃ r : Int, r = 2 - (n : Int) := ⟨_, rfl⟩
  rw [← hr] at hL
  obtain ⟨x13, x14, x15, hT⟩ := hL.tm
  refine wpM_seq (wpM_seq (wpM_piece calmM hG calmR14 (noRet_true _) (R := fun t d a' w' => (Tm a'.tmps (.pointer (some ⟨b5, 0, none⟩)) (.pointer (some ⟨b6, 0, none⟩)) (.func (.func 22) #[] #[.pointer (some ⟨bo, 0, none⟩), .pointer (some ⟨bp, 0, none⟩)]) (.pointer (some ⟨b8, 0, none⟩)) (.pointer (some ⟨b11, 0, none⟩)) (.pointer (some ⟨b12, 0, none⟩)) x13 x14 x15 ∧ a'.tmps.getD 47 undef = .bool (decide (r < 2))) ∧ a'.defers = [] ∧ w' = w.re t d) (fun t d => r14_lone (w.re t d) hT (cell_row1 hL.fx.c12).1) (fun a' w1 hR => ?_)))
  obtain ⟨t, d, t', d', ⟨hT1, h47v⟩, hd, hw⟩ := hR
  obtain ⟨T1, D⟩ := a'
  simp only at hd hT1 h47v
  subst hd
  obtain ⟨e1, o1, u1⟩ := re_eq hw
  clear hw hT
  have hL1 := hL.grow (T' := T1) (w' := w1) hW hTn ⟨_, _, _, hT1⟩ (fun x _ => by rw [e1]) (by rw [e1]; exact Nat.le_refl _) o1 u1
  clear hL e1 o1 u1
  show wpM _ _ _ _ _ _ _ _ ⟨T1, ds.map markD⟩ _ _
  cases n with
  | zero =>
    refine wpM_cond (t := false) (by rw [h47]; refine h47v.trans ?_; rw [hr]; rfl) ?_
    simp only [Bool.false_eq_true, ↓reduceIte]
    refine wpM_exit (hx _ _ _ ⟨by omega, b12, ds, T1, rfl, ?_⟩)
    rw [← hr]
    exact hL1
  | succ n =>
    have hr01 : r = 0 ∨ r = 1 := by omega
    refine wpM_cond (t := true) (by rw [h47]; refine h47v.trans ?_; rw [decide_eq_true (by omega)]) ?_
    simp only [↓reduceIte]
    refine wpM_skip ?_
    show wpM _ _ _ _ _ _ _ _ ⟨T1, ds.map markD⟩ _ _
    refine wpM_seq (wpM_block (wpM_seq (wpM_piece calmM hG calmR16 (noRet_true _) (R := fun t d a' w' => Tm a'.tmps (.pointer (some ⟨b5, 0, none⟩)) (.pointer (some ⟨b6, 0, none⟩)) (.func (.func 22) #[] #[.pointer (some ⟨bo, 0, none⟩), .pointer (some ⟨bp, 0, none⟩)]) (.pointer (some ⟨b8, 0, none⟩)) (.pointer (some ⟨b11, 0, none⟩)) (.pointer (some ⟨b12, 0, none⟩)) (.pointer (some ⟨w1.heap.size, 0, none⟩)) x14 x15 ∧ a'.defers = [] ∧ NewAt (w1.re t d) w' (.int .i64 0) 3) (fun t d => r16_lone (w1.re t d) hT1) (fun a' w2 hR => ?_))))
    obtain ⟨t, d, t', d', hT2, hd, hnew, hbel⟩ := hR
    obtain ⟨T2, D⟩ := a'
    simp only at hd hT2
    subst hd
    obtain ⟨hs2, hk2, o2, u2⟩ := below_re hbel
    have hL2 := hL1.grow (T' := T2) (w' := w2) hW hTn ⟨_, _, _, hT2⟩ hk2 hs2 o2 u2
    replace hnew : w2.heap[w1.heap.size]? = some (.cells #[.int .i64 0] 3) := hnew
    have hlow1 := hL1.fx.low hW hTn
    have hs01 := hL1.since.size
    have hfb1 : ¬ σ.F w1.heap.size := fun h => by have := (hL1.since.idle.fb _ h).2; omega
    have h61 : b6 < w1.heap.size := (Array.getElem?_eq_some_iff.1 hL1.r6.1).1
    have hbo1 : bo < w1.heap.size := World.block_lt_of_cell? w1 _ hL1.cbo
    have hbp1 : bp < w1.heap.size := World.block_lt_of_cell? w1 _ hL1.cbp
    have hpk1 : ∀ ad, pa = some ad → 0 < pn → ad.block < w1.heap.size := fun ad e h0 => hL1.pk.low ad e (by rw [iv_length, hpn]; exact h0)
    have hmk1 : ∀ x ∈ ds, x < w1.heap.size := fun x hx => (Array.getElem?_eq_some_iff.1 (hL1.marks x hx).2.2.1).1
    have hb121 : b12 < w1.heap.size := hlow1 _ (.inr (.inr (.inr (.inl rfl))))
    have hS2b : S2 ≤ w1.heap.size := hL1.s2
    clear hk2 hL1 hbel hT1 h47v o2 u2
    obtain ⟨b13, hb13⟩ : ∃ b13, b13 = w1.heap.size := ⟨_, rfl⟩
    rw [← hb13] at hT2 hnew hlow1 hs01 hfb1 h61 hbo1 hbp1 hpk1 hmk1 hb121 hS2b hs2
    clear hb13
    show wpM _ _ _ _ _ _ _ _ ⟨T2, ds.map markD⟩ _ _
    refine wpM_seq (wpM_seq (wpM_piece calmM hG calmR17 (noRet_true _) (R := fun t d a' w' => (Tm a'.tmps (.pointer (some ⟨b5, 0, none⟩)) (.pointer (some ⟨b6, 0, none⟩)) (.func (.func 22) #[] #[.pointer (some ⟨bo, 0, none⟩), .pointer (some ⟨bp, 0, none⟩)]) (.pointer (some ⟨b8, 0, none⟩)) (.pointer (some ⟨b11, 0, none⟩)) (.pointer (some ⟨b12, 0, none⟩)) (.pointer (some ⟨b13, 0, none⟩)) x14 x15 ∧ a'.tmps.getD 50 undef = .func (.func 22) #[] #[.pointer (some ⟨bo, 0, none⟩), .pointer (some ⟨bp, 0, none⟩)]) ∧ a'.defers = [] ∧ w' = w2.re t d) (fun t d => r17_lone (w2.re t d) hT2) (fun a' w3 hR => ?_)))
    obtain ⟨t, d, t', d', ⟨hT3, h50v⟩, hd, hw⟩ := hR
    obtain ⟨T3, D⟩ := a'
    simp only at hd hT3 h50v
    subst hd
    obtain ⟨e3, o3, u3⟩ := re_eq hw
    have hL3 := hL2.grow (T' := T3) (w' := w3) hW hTn ⟨_, _, _, hT3⟩ (fun x _ => by rw [e3]) (by rw [e3]; exact Nat.le_refl _) o3 u3
    have h13 : w3.heap[b13]? = some (.cells #[.int .i64 0] 3) := by rw [e3]; exact hnew
    have h13s : b13 < w3.heap.size := (Array.getElem?_eq_some_iff.1 h13).1
    clear hL2 hw e3 o3 u3 hT2 hnew hs2
    show wpM _ _ _ _ _ _ _ _ ⟨T3, ds.map markD⟩ _ _
    have hmul : (n + 1) * N = n * N + N := Nat.succ_mul n N
    have hroom := hL3.since.idle.room
    have hid3 : Idle σ w3 N := { hL3.since.idle with room := by omega }
    have hlen : (things (L.map iv) picks 0).length = m := by rw [things_len, total_iv, htot]
    have cont : ∀ (Q' : Exit → Act → Ph → World → Prop) (σ' : Ph) (B : Nat → Prop) (w4 : World) (dd : List (Nat × Value)), Idle σ' w4 (σ.room - N) → Later σ w3 σ' → Grew (fun x => FxB b5 b8 b11 b12 p8 p11 m x ∨ x = b13) w3 B w4 → (∀ x, B x → ¬ σ'.F x) → StI r stop b5 b8 b11 b12 b13 p8 p11 m c8 c11 W Tn B dd w4 → (dd.length = m ∨ r = 0 ∧ (dd.length : Int) - 1 = stop) → dd.length ≤ m → w4.heap[w3.heap.size]? = some (.deferred (some [])) → ¬ σ'.F w3.heap.size → ¬ B w3.heap.size →
        (∀ w5 T5, LJ σ0 w0 N m c8 c11 stop b5 b6 b8 b11 bo bp g pn pc S2 p8 p11 pa W Tn picks L b12 (w3.heap.size :: ds) r (n * N) T5 σ' w5 → Q' .normal ⟨T5, (w3.heap.size :: ds).map markD⟩ σ' w5) →
        wpM Try.prog wtG zI zS Post (fun b => b.fn = 5 ∧ b.roundOf = none) p24St Q' ⟨T3, (w3.heap.size :: ds).map markD⟩ σ' w4 := fun Q' σ' B w4 dd hid4 hlat hgr hBF hI hkm hkm2 hd4 hdF hdB hQ' => by
      obtain ⟨hFx4, h134, hBx⟩ := hI
      have hlow4 : ∀ x, x < w3.heap.size → ¬ FxB b5 b8 b11 b12 p8 p11 m x → x ≠ b13 → w4.heap[x]? = w3.heap[x]? := fun x h1 h2 h3 => hgr.low x h1 fun h => h.elim h2 h3
      have hnFx : ∀ x, x < S2 → x ≠ b5 → ¬ FxB b5 b8 b11 b12 p8 p11 m x := fun x h1 h2 h => by
        rcases (hL3.fb x h).2 with h | h
        · exact h2 h
        · omega
      have hL4 : LJ σ0 w0 N m c8 c11 stop b5 b6 b8 b11 bo bp g pn pc S2 p8 p11 pa W Tn picks L b12 (w3.heap.size :: ds) r (n * N) T3 σ' w4 := by
        refine ⟨⟨_, _, _, hT3⟩, ⟨{ hid4 with room := by have := hid4.room; omega }, hL3.since.later.trans hlat hL3.since.size, Nat.le_trans hL3.since.size hgr.size, fun x hx => ?_, hgr.os.trans hL3.since.os, hgr.output.trans hL3.since.output⟩, Nat.le_trans hL3.s2 hgr.size, hFx4, fun x hx => ⟨hBF x ((hBx x).2 (.inl hx)), (hL3.fb x hx).2⟩, ⟨?_, fun h => ?_⟩, ?_, ?_, ?_, ?_, ?_, ?_⟩
        · rw [hlow4 x (by omega) (hnFx x (by omega) (by omega)) (by omega)]
          exact hL3.since.low x hx
        · rw [hlow4 b6 (by omega) (hnFx b6 (by omega) (by omega)) (by omega)]
          exact hL3.r6.1
        · rcases hlat.f' _ h with h | h
          · exact hL3.r6.2 h
          · omega
        · exact (World.cell?_of_block (hlow4 bo (by omega) (hnFx bo (by omega) (by omega)) (by omega))).trans hL3.cbo
        · refine hL3.own.later hlat.lay (fun x h1 h2 => ?_) (fun ad e h => ?_) hgr.size
          · rcases hlat.sw x h2 with h | h
            · exact h
            · have := (hid3.fb x (hid3.layF x h1)).2
              omega
          · cases e
            exact hlow4 g h (hnFx g (by omega) (by omega)) (by omega)
        · exact (World.cell?_of_block (hlow4 bp (by omega) (hnFx bp (by omega) (by omega)) (by omega))).trans hL3.cbp
        · refine hL3.pk.keep fun ad e h0 => ?_
          have h1 := hpa ad e
          exact hlow4 ad.block (hL3.pk.low ad e h0) (hnFx _ (by omega) (by omega)) (by omega)
        · refine List.nodup_cons.2 ⟨fun h => ?_, hL3.nd⟩
          have := hmk1 _ h
          omega
        · intro x hx
          rcases List.mem_cons.1 hx with rfl | hx
          · exact ⟨by omega, hdF, hd4, fun h => hdB ((hBx _).2 (.inl h))⟩
          · obtain ⟨h1, h2, h3, h4⟩ := hL3.marks x hx
            have h5 := hmk1 x hx
            refine ⟨h1, fun h => ?_, ?_, h4⟩
            · rcases hlat.f' _ h with h | h
              · exact h2 h
              · omega
            · rw [hlow4 x (by omega) h4 (by omega)]
              exact h3
      have hG4 : ∀ b, σ'.F b → Try.prog.globals.size ≤ b := fun b hb => (hid4.fb b hb).1
      refine wpM_piece calmM hG4 calmP24 (noRet_true _) (R := fun t d a' w' => Tm a'.tmps (.pointer (some ⟨b5, 0, none⟩)) (.pointer (some ⟨b6, 0, none⟩)) (.func (.func 22) #[] #[.pointer (some ⟨bo, 0, none⟩), .pointer (some ⟨bp, 0, none⟩)]) (.pointer (some ⟨b8, 0, none⟩)) (.pointer (some ⟨b11, 0, none⟩)) (.pointer (some ⟨b12, 0, none⟩)) (.pointer (some ⟨b13, 0, none⟩)) x14 x15 ∧ a'.defers = [] ∧ w' = w4.re t d) (fun t d => p24_lone (w4.re t d) hT3 (cell_row1 h134).1 (cell_row1 hFx4.c8).1 (cell_row1 hFx4.c12).1 (cell_row1 hFx4.c5).1 (by omega) (by omega) hkm) (fun a' w5 hR => ?_)
      obtain ⟨t, d, t', d', hT5, hd, hw⟩ := hR
      obtain ⟨T5, D⟩ := a'
      simp only at hd hT5
      subst hd
      obtain ⟨e5, o5, u5⟩ := re_eq hw
      exact hQ' w5 T5 (hL4.grow (T' := T5) (w' := w5) hW hTn ⟨_, _, _, hT5⟩ (fun x _ => by rw [e5]) (by rw [e5]; exact Nat.le_refl _) o5 u5)
    have fin : ∀ σ' w5 T5, LJ σ0 w0 N m c8 c11 stop b5 b6 b8 b11 bo bp g pn pc S2 p8 p11 pa W Tn picks L b12 (w3.heap.size :: ds) r (n * N) T5 σ' w5 → wpM Try.prog wtG zI zS Post (fun b => b.fn = 5 ∧ b.roundOf = none) p15St (thenM (fun a' σ' pw' => ∃ m', m' < n + 1 ∧ JJ σ0 w0 N m c8 c11 stop b5 b6 b8 b11 bo bp g pn pc S2 p8 p11 pa W Tn picks L m' a' σ' pw') Q) ⟨T5, (w3.heap.size :: ds).map markD⟩ σ' w5 := fun σ' w5 T5 hL5 => by
      have hG5 : ∀ b, σ'.F b → Try.prog.globals.size ≤ b := fun b hb => (hL5.since.idle.fb b hb).1
      obtain ⟨x13, x14, x15, hT5⟩ := hL5.tm
      refine wpM_piece calmM hG5 calmP15 (noRet_true _) (R := fun t d a' w' => Tm a'.tmps (.pointer (some ⟨b5, 0, none⟩)) (.pointer (some ⟨b6, 0, none⟩)) (.func (.func 22) #[] #[.pointer (some ⟨bo, 0, none⟩), .pointer (some ⟨bp, 0, none⟩)]) (.pointer (some ⟨b8, 0, none⟩)) (.pointer (some ⟨b11, 0, none⟩)) (.pointer (some ⟨w5.heap.size, 0, none⟩)) x13 x14 x15 ∧ a'.defers = [] ∧ NewAt (w5.re t d) w' (.int .i64 (r + 1)) 3) (fun t d => p15_lone (w5.re t d) hT5 (cell_row1 hL5.fx.c12).1 hr01) (fun a' w6 hR => ?_)
      obtain ⟨t, d, t', d', hT6, hd, hnew, hbel⟩ := hR
      obtain ⟨T6, D⟩ := a'
      simp only at hd hT6
      subst hd
      obtain ⟨hs6, hk6, o6, u6⟩ := below_re hbel
      have hL6 := hL5.grow (T' := T5) (w' := w6) hW hTn ⟨_, _, _, hT5⟩ hk6 hs6 o6 u6
      have hF6 := hL6.fx
      have hlow5 := hL5.fx.low hW hTn
      have hnF : ¬ σ'.F w5.heap.size := fun h => by have := (hL5.since.idle.fb _ h).2; omega
      have hS25 : S2 ≤ w5.heap.size := by
        have := (hL5.marks w3.heap.size (by simp)).2.2.1
        have := (Array.getElem?_eq_some_iff.1 this).1
        omega
      have hsub : ∀ x, FxB b5 b8 b11 w5.heap.size p8 p11 m x → FxB b5 b8 b11 b12 p8 p11 m x ∨ x = w5.heap.size := fun x hx => by
        rcases hx with h | h | h | h | h | h
        · exact .inl (.inl h)
        · exact .inl (.inr (.inl h))
        · exact .inl (.inr (.inr (.inl h)))
        · exact .inr h
        · exact .inl (.inr (.inr (.inr (.inr (.inl h)))))
        · exact .inl (.inr (.inr (.inr (.inr (.inr h)))))
      refine ⟨n, Nat.lt_succ_self n, by omega, w5.heap.size, w3.heap.size :: ds, T6, rfl, ?_⟩
      have hr1 : 2 - (n : Int) = r + 1 := by omega
      rw [hr1]
      refine ⟨⟨_, _, _, hT6⟩, hL6.since, hL6.s2, ⟨hF6.c5, hF6.c8, hF6.c11, hnew, hF6.r8, hF6.r11⟩, fun x hx => ?_, hL6.r6, hL6.cbo, hL6.own, hL6.cbp, hL6.pk, hL6.nd, fun x hx => ?_⟩
      · rcases hsub x hx with h | rfl
        · exact hL6.fb x h
        · exact ⟨hnF, .inr hS25⟩
      · obtain ⟨h1, h2, h3, h4⟩ := hL6.marks x hx
        refine ⟨h1, h2, h3, fun h => ?_⟩
        rcases hsub x h with h | h
        · exact h4 h
        · have := (Array.getElem?_eq_some_iff.1 (hL5.marks x hx).2.2.1).1
          omega
    refine wpM_block (wpM_range (f0 := 5) (idx := 4) (N := N) (bo := bo) (bp := bp) (cap := N) (ao := some ⟨g, 0, none⟩) (pa := pa) (pn := pn) (pc := pc) (picks := picks) (lists := L.map iv) (All := things (L.map iv) picks 0) (B0 := fun x => FxB b5 b8 b11 b12 p8 p11 m x ∨ x = b13) (Iu := StI r stop b5 b8 b11 b12 b13 p8 p11 m c8 c11 W Tn) (Ju := fun B d w => StI r stop b5 b8 b11 b12 b13 p8 p11 m c8 c11 W Tn B d w ∧ r = 0 ∧ (d.length : Int) - 1 = stop)
      (fun b hb => ⟨hb.2, hb.1⟩) ((h50 _).trans h50v) rfl hid3 hL3.cbo hL3.own hL3.cbp hL3.pk hpn rfl (by rw [total_iv]; omega) (StI.stab hW hTn) (fun B d w w' h1 h2 h3 => ⟨StI.stab hW hTn B d w w' h1.1 h2 h3, h1.2⟩) ⟨hL3.fx, h13, fun x => Iff.rfl⟩ (fun x hx => ?_) (fun h => ?_) (fun ad e h0 h => ?_)
      (stm_round hT3 hW hTn hm hr01 (fun x hx e => by have := hlow1 x hx; omega) hget) (fun σ' B w4 h1 h2 h3 h4 h5 h6 h7 h8 => ?_) (fun σ' B d rest w4 h1 h2 h3 h4 h5 hrest h6 h7 h8 => ?_))
    · rcases hx with hx | rfl
      · exact ⟨by have := hlow1 x hx; omega, (hL3.fb x hx).1⟩
      · exact ⟨h13s, hfb1⟩
    · rcases h with h | h
      · rcases (hL3.fb _ h).2 with h | h <;> omega
      · omega
    · have h1 := hpa ad e
      have h2 := hpk1 ad e h0
      rcases h with h | h
      · rcases (hL3.fb _ h).2 with h | h <;> omega
      · omega
    · exact cont _ σ' B w4 _ h1 h2 h3 h4 h5 (.inl hlen) (Nat.le_of_eq hlen) h6 h7 h8 fun w5 T5 hL5 => fin σ' w5 T5 hL5
    · have hdl : d.length ≤ m := by
        have := congrArg List.length hrest
        rw [List.length_append, hlen] at this
        omega
      exact cont _ σ' B w4 d h1 h2 h3 h4 h5.1 (.inr h5.2) hdl h6 h7 h8 fun w5 T5 hL5 => fin σ' w5 T5 hL5
end
end Go.Proofs.Ytmllcfkgkkbkpaa
