/-
  source, pairs: it boxes its arguments, makes its channel and starts its goroutine, beside others that make blocks.
-/
import Derived.Test.YtmllcfkgkkbkpaaPk5
import Derived.Test.YtmllcfkgkkbkpaaPk2
import Derived.Test.YtmllcfkgkkbkpaaHvWorkerP
import Derived.Test.YtmllcfkgkkbkpaaChecked
import Derived.Lib.SliceRun
import Derived.Deep.RegionHeld3
namespace Go.Proofs.Ytmllcfkgkkbkpaa.Pr
open Go Go.Conc Go.RowKit Go.Conc.Lib Go.ConcR.Gen
open Go.ConcN (upd upd_ne upd_same WgLive)
open Go.ConcR (KK wgBlock WgAt stA smA rd wr mk DC0)
noncomputable def bodyS : Code := (Try.f30.body).getD .skip
theorem ntS : Try.f30.ntmps = 11 := by kernel_rfl
abbrev oS (v : Value) : Obj := .cells #[v] 32
abbrev oC (v : Value) : Obj := .cells #[v] 89
/-- A row of pairs that stands still, and what it bears. -/
structure ItemsAt (σ : Ph) (a0 : Option Addr) (n : Nat) (items : List PV) : Prop where
  len : items.length = n
  small : n < 1000000000000
  nil : a0 = none → n = 0
  shape : ∀ ad, a0 = some ad → ∃ b o, ad = ⟨b, o, none⟩
  row : ∀ b o, a0 = some ⟨b, o, none⟩ → 0 < n → ∃ ob, σ.lay b = some ob ∧ ¬ σ.SW b ∧ ∀ (w : World) i x, w.heap[b]? = some ob → items[i]? = some x → w.cell? ⟨b, o + i * 2, none⟩ = some (.string x.1) ∧ w.cell? ⟨b, o + i * 2 + 1, none⟩ = some (.int .i64 x.2)
/-- What source leaves behind. -/
structure Sr (σ : Ph) (w : World) (σ' : Ph) (w' : World) (c : Nat) (items : List Value) (room : Nat) : Prop where
  first : σ'.first = σ.first
  n : σ'.n = σ.n + 1
  wg : σ'.Wg = σ.Wg
  quit : σ'.quit = σ.quit
  closed : σ'.closed = σ.closed
  tag : σ'.tag = .opn false
  d0 : σ'.d0 = σ.d0
  room : σ'.room = room
  sw : σ'.SW = σ.SW
  al : σ'.al = σ.al
  rem : σ'.rem = upd σ.rem (σ.first + σ.n) items
  ch : σ'.ch = upd σ.ch (σ.first + σ.n) c
  lay : ∀ x o, σ.lay x = some o → σ'.lay x = some o
  layb : ∀ x, (σ'.lay x).isSome = true → (σ.lay x).isSome = true ∨ (w.heap.size ≤ x ∧ x < w'.heap.size ∧ σ'.F x)
  f0 : ∀ x, σ.F x → σ'.F x
  f1 : ∀ x, σ'.F x → σ.F x ∨ (w.heap.size ≤ x ∧ x < w'.heap.size)
  low : ∀ x, x < w.heap.size → w'.heap[x]? = w.heap[x]?
  size : w.heap.size ≤ w'.heap.size
  os : w'.os = w.os
  output : w'.output = w.output
section
variable {Post : Value → World → Prop} {σ : Ph} {pw : World} {c : Frame} {cs : List Frame}
theorem run_mkC (w : World) : Sem.run Try.prog (Instr.makeChan 89 (.int .i64 0)) w = .ok (.chan (some w.heap.size)) (w.alloc (.chan 0 #[] false 0 0 false)) := by
  obtain ⟨i, hi, hb⟩ : ∃ i, Try.prog.info? tP = some i ∧ i.bytes = 24 := ⟨_, rfl, rfl⟩
  exact run_makeChan (P := Try.prog) Try.underlying89 hi .i64 0 (by omega) (by rw [hb]; omega)
theorem ev_mkC (w : World) : Sem.events Try.prog (Instr.makeChan 89 (.int .i64 0)) w #[] = #[] := by
  obtain ⟨i, hi, hb⟩ : ∃ i, Try.prog.info? tP = some i ∧ i.bytes = 24 := ⟨_, rfl, rfl⟩
  exact events_makeChan (P := Try.prog) Try.underlying89 hi .i64 0 (by omega) (by rw [hb]; omega) #[]
theorem lay_at {σ : Ph} {b x : Nat} {o : Obj} : (freeze σ b o).lay x = if x = b then some o else σ.lay x := by
  by_cases e : x = b
  · subst e; simp [freeze, upd_same]
  · simp only [freeze]; rw [upd_ne _ _ e, if_neg e]
set_option maxRecDepth 100000 in
set_option maxHeartbeats 4000000 in
theorem srcM {a0 : Option Addr} {n cap room : Nat} {items : List PV} (hGW : ∀ b, σ.F b → Try.prog.globals.size ≤ b ∧ b < pw.heap.size) (hgs : Try.prog.globals.size ≤ pw.heap.size) (hSW : ∀ b, σ.SW b → b < pw.heap.size) (hL : ∀ b, (σ.lay b).isSome = true → b < pw.heap.size) (ht : σ.tag = .opn true) (hc : σ.closed = false) (hd0 : σ.d0 = 0) (hroom : σ.room = room + 1)
    (hI : ItemsAt σ a0 n items)
    (hn : ∀ σ' pw' ch, Sr σ pw σ' pw' ch (items.map prv) room → MW Try.prog wtG zI zS Post σ' (G (c.finish (.chan (some ch))) cs) pw') :
    MW Try.prog wtG zI zS Post σ (G (Frame.enter Try.prog 30 #[.slice a0 n cap, .chan (some σ.quit), vD σ.Wg] .normal) (c :: cs)) pw := by
  refine mw_body1 (cc := bodyS) (r := 6) Try.func30 rfl rfl fun Q hQ => ?_
  rw [ntS, app11]
  simp only [bodyS, Try.f30, Option.getD_some]
  have hFl : ∀ x, σ.F x → x < pw.heap.size := fun x hx => (hGW x hx).2
  refine wpW_seq (wpW_region ?_)
  simp only [List.size_toArray, List.length_cons, List.length_nil, Nat.reduceAdd, Nat.zero_add, List.range, List.range.loop]
  refine opsW_new (ob := oS (.slice a0 n cap)) (f := fun s => .pointer (some ⟨s, 0, none⟩)) hFl rfl rfl rfl (by simp) (fun w => ⟨by go_simp, by simp [go_sem]⟩) fun σ1 w1 s1 g1 h1 f1 l1 z1 => ?_
  walk_nrm
  have hG1 := g1.hG hgs hGW
  refine opsW_new (ob := oQ (.chan (some σ.quit))) (f := fun s => .pointer (some ⟨s, 0, none⟩)) (fun x hx => (hG1 x hx).2) rfl rfl rfl (by simp) (fun w => ⟨by go_simp, by simp [go_sem]⟩) fun σ2 w2 s2 g2 h2 f2 l2 z2 => ?_
  walk_nrm
  have hG2 := g2.hG (by have := g1.size; omega) hG1
  refine opsW_new (ob := oD (vD σ.Wg)) (f := fun s => .pointer (some ⟨s, 0, none⟩)) (fun x hx => (hG2 x hx).2) rfl rfl rfl (by simp) (fun w => ⟨by go_simp, by simp [go_sem]⟩) fun σ3 w3 s3 g3 h3 f3 l3 z3 => ?_
  walk_nrm
  have hG3 := g3.hG (by have := g1.size; have := g2.size; omega) hG2
  have hgs3 : Try.prog.globals.size ≤ w3.heap.size := by have := g1.size; have := g2.size; have := g3.size; omega
  refine opsW_read calmM hG3 hgs3 rfl rfl rfl (fun κ t d K hK => ?_)
  go_simp
  refine hK _ ?_
  clear hK
  walk_nrm
  refine opsW_nil ?_
  show wpW _ _ _ _ _ _ _ _ _ _ _
  refine wpW_seq (wpW_region ?_)
  simp only [List.size_toArray, List.length_cons, List.length_nil, Nat.reduceAdd, Nat.zero_add, List.range, List.range.loop]
  refine opsW_new (ob := .chan 0 #[] false 0 0 false) (f := fun s => .chan (some s)) (fun x hx => (hG3 x hx).2) rfl rfl rfl (by simp) (fun w => ⟨?_, ?_⟩) fun σ4 w4 s4 g4 h4 f4 l4 z4 => ?_
  · go_simp
    rw [run_mkC]
    rfl
  · simp [go_sem]
    exact ev_mkC w
  walk_nrm
  have hG4 := g4.hG hgs3 hG3
  refine opsW_new (ob := oC (.chan none)) (f := fun s => .pointer (some ⟨s, 0, none⟩)) (fun x hx => (hG4 x hx).2) rfl rfl rfl (by simp) (fun w => ⟨by go_simp, by simp [go_sem]⟩) fun σ5 w5 s5 g5 h5 f5 l5 z5 => ?_
  walk_nrm
  have hG5 := g5.hG (by have := g4.size; omega) hG4
  have hgs5 : Try.prog.globals.size ≤ w5.heap.size := by have := g4.size; have := g5.size; omega
  obtain ⟨hb1, hb2⟩ := cell_row1 h5
  refine opsW_set calmM hG5 hgs5 rfl rfl rfl ⟨s5, 0, none⟩ (.chan (some s4)) (by show s5 < _; omega) (fun κ t d K hK => ?_)
  have hx1 : ((grW Try.prog w5 κ).re t d).cell? ⟨s5, 0, none⟩ = some (.chan none) := grW_cell hb1
  have hx2 : ((grW Try.prog w5 κ).re t d).frozen? ⟨s5, 0, none⟩ = false := (cell_row1 (w := (grW Try.prog w5 κ).re t d) ((grW_at (by omega)).trans h5)).2
  go_simp
  refine hK _ ?_
  clear hK hx1 hx2
  walk_nrm
  have gA := (g1.trans (g2.trans (g3.trans (g4.trans g5))))
  have gB : Gw σ pw σ5 (w5.setCell ⟨s5, 0, none⟩ (.chan (some s4))) := gA.set (by show pw.heap.size ≤ s5; have := g1.size; have := g2.size; have := g3.size; have := g4.size; omega)
  have e1 : (w5.setCell ⟨s5, 0, none⟩ (.chan (some s4))).heap[s1]? = some (oS (.slice a0 n cap)) := by
    rw [heap_setCell_other w5 ⟨s5, 0, none⟩ s1 _ (show s1 ≠ s5 by have := g2.size; have := g3.size; have := g4.size; omega)]
    exact g5.at (g4.at (g3.at (g2.at h1)))
  have e2 : (w5.setCell ⟨s5, 0, none⟩ (.chan (some s4))).heap[s2]? = some (oQ (.chan (some σ.quit))) := by
    rw [heap_setCell_other w5 ⟨s5, 0, none⟩ s2 _ (show s2 ≠ s5 by have := g3.size; have := g4.size; omega)]
    exact g5.at (g4.at (g3.at h2))
  have e3 : (w5.setCell ⟨s5, 0, none⟩ (.chan (some s4))).heap[s3]? = some (oD (vD σ.Wg)) := by
    rw [heap_setCell_other w5 ⟨s5, 0, none⟩ s3 _ (show s3 ≠ s5 by have := g4.size; omega)]
    exact g5.at (g4.at h3)
  have e4 : (w5.setCell ⟨s5, 0, none⟩ (.chan (some s4))).heap[s4]? = some (.chan 0 #[] false 0 0 false) := by
    rw [heap_setCell_other w5 ⟨s5, 0, none⟩ s4 _ (show s4 ≠ s5 by omega)]
    exact g5.at h4
  have e5 : (w5.setCell ⟨s5, 0, none⟩ (.chan (some s4))).heap[s5]? = some (oC (.chan (some s4))) := by
    rw [heap_setCell_same w5 s5 0 _ _ _ h5]
    rfl
  have n1 : ¬ σ5.F s1 := g5.nF (g4.nF (g3.nF (g2.nF f1 (by omega)) (by have := g2.size; omega)) (by have := g2.size; have := g3.size; omega)) (by have := g2.size; have := g3.size; have := g4.size; omega)
  have n2 : ¬ σ5.F s2 := g5.nF (g4.nF (g3.nF f2 (by omega)) (by have := g3.size; omega)) (by have := g3.size; have := g4.size; omega)
  have n3 : ¬ σ5.F s3 := g5.nF (g4.nF f3 (by omega)) (by have := g4.size; omega)
  have n4 : ¬ σ5.F s4 := g5.nF f4 (by omega)
  have hz : pw.heap.size ≤ s1 ∧ s1 < s2 ∧ s2 < s3 ∧ s3 < s4 ∧ s4 < s5 ∧ s5 < (w5.setCell ⟨s5, 0, none⟩ (.chan (some s4))).heap.size := by
    have : (w5.setCell ⟨s5, 0, none⟩ (.chan (some s4))).heap.size = w5.heap.size := by simp
    omega
  have hGW6 := gB.hG hgs hGW
  generalize w5.setCell ⟨s5, 0, none⟩ (.chan (some s4)) = w6 at gB e1 e2 e3 e4 e5 hz hGW6 ⊢
  obtain ⟨FX, rfl⟩ : ∃ F, σ5 = { σ with F := F } := ⟨_, gB.same⟩
  clear gA g1 g2 g3 g4 g5 h1 h2 h3 h4 h5 f1 f2 f3 f4 hG1 hG2 hG3 hG4 hG5 hb1 hb2 l1 l2 l3 l4 l5 z1 z2 z3 z4 z5 hgs3 hgs5
  have hgs6 : Try.prog.globals.size ≤ w6.heap.size := by have := gB.size; omega
  refine opsW_nil ?_
  show wpW _ _ _ _ _ _ _ _ _ _ _
  refine wpW_seq (wpW_region ?_)
  simp only [List.size_toArray, List.length_cons, List.length_nil, Nat.reduceAdd, Nat.zero_add, List.range, List.range.loop]
  refine opsW_read calmM hGW6 hgs6 rfl rfl rfl (fun κ t d K hK => ?_)
  go_simp
  refine hK _ ?_
  clear hK
  walk_nrm
  refine opsW_freeze (b := s1) (o := oS (.slice a0 n cap)) n1 e1 rfl ?_
  refine opsW_freeze (b := s2) (o := oQ (.chan (some σ.quit))) (fun h => h.elim n2 fun h => by omega) (by rw [kill_ne (by omega)]; exact e2) rfl ?_
  refine opsW_freeze (b := s3) (o := oD (vD σ.Wg)) (fun h => h.elim (fun h => h.elim n3 fun h => by omega) fun h => by omega) (by rw [kill_ne (by omega), kill_ne (by omega)]; exact e3) rfl ?_
  refine opsW_freeze (b := s5) (o := oC (.chan (some s4))) (fun h => h.elim (fun h => h.elim (fun h => h.elim f5 fun h => by omega) fun h => by omega) fun h => by omega) (by rw [kill_ne (by omega), kill_ne (by omega), kill_ne (by omega)]; exact e5) rfl ?_
  obtain ⟨σ7, hσ7⟩ : ∃ x, x = freeze (freeze (freeze (freeze { σ with F := FX } s1 (oS (.slice a0 n cap))) s2 (oQ (.chan (some σ.quit)))) s3 (oD (vD σ.Wg))) s5 (oC (.chan (some s4))) := ⟨_, rfl⟩
  have L : ∀ x, σ7.lay x = if x = s5 then some (oC (.chan (some s4))) else if x = s3 then some (oD (vD σ.Wg)) else if x = s2 then some (oQ (.chan (some σ.quit))) else if x = s1 then some (oS (.slice a0 n cap)) else σ.lay x := fun x => by
    rw [hσ7, lay_at, lay_at, lay_at, lay_at]
  have F7 : ∀ x, σ7.F x ↔ ((((FX x ∨ x = s1) ∨ x = s2) ∨ x = s3) ∨ x = s5) := fun x => by rw [hσ7]; exact Iff.rfl
  have e7 : σ7 = { σ with F := σ7.F, lay := σ7.lay } := by rw [hσ7]; rfl
  have L1 : σ7.lay s1 = some (oS (.slice a0 n cap)) := by rw [L, if_neg (by omega), if_neg (by omega), if_neg (by omega), if_pos rfl]
  have L2 : σ7.lay s2 = some (oQ (.chan (some σ.quit))) := by rw [L, if_neg (by omega), if_neg (by omega), if_pos rfl]
  have L3 : σ7.lay s3 = some (oD (vD σ.Wg)) := by rw [L, if_neg (by omega), if_pos rfl]
  have L5 : σ7.lay s5 = some (oC (.chan (some s4))) := by rw [L, if_pos rfl]
  have Lo : ∀ x, x < pw.heap.size → σ7.lay x = σ.lay x := fun x hx => by rw [L, if_neg (by omega), if_neg (by omega), if_neg (by omega), if_neg (by omega)]
  have hw7 : ∀ x, x ≠ s1 → x ≠ s2 → x ≠ s3 → x ≠ s5 → (killW Try.prog (killW Try.prog (killW Try.prog (killW Try.prog w6 s1) s2) s3) s5).heap[x]? = w6.heap[x]? := fun x h1 h2 h3 h5 => by rw [kill_ne h5, kill_ne h3, kill_ne h2, kill_ne h1]
  have hs7 : (killW Try.prog (killW Try.prog (killW Try.prog (killW Try.prog w6 s1) s2) s3) s5).heap.size = w6.heap.size := by simp [killW]
  have ho7 : (killW Try.prog (killW Try.prog (killW Try.prog (killW Try.prog w6 s1) s2) s3) s5).os = w6.os ∧ (killW Try.prog (killW Try.prog (killW Try.prog (killW Try.prog w6 s1) s2) s3) s5).output = w6.output := ⟨rfl, rfl⟩
  rw [← hσ7]
  generalize killW Try.prog (killW Try.prog (killW Try.prog (killW Try.prog w6 s1) s2) s3) s5 = w7 at hw7 hs7 ho7 ⊢
  have e7t : σ7.tag = .opn true ∧ σ7.closed = false ∧ σ7.d0 = 0 ∧ σ7.room = room + 1 ∧ σ7.Wg = σ.Wg ∧ σ7.quit = σ.quit ∧ σ7.SW = σ.SW ∧ σ7.first = σ.first ∧ σ7.n = σ.n ∧ σ7.ch = σ.ch ∧ σ7.rem = σ.rem ∧ σ7.al = σ.al := by rw [e7]; exact ⟨ht, hc, hd0, hroom, rfl, rfl, rfl, rfl, rfl, rfl, rfl, rfl⟩
  obtain ⟨t1, t2, t3, t4, t5, t6, t7, t8, t9, t10, t11, t12⟩ := e7t
  clear hσ7 e7
  have hk : ∀ b, pw.heap.size ≤ b → (σ7.lay b).isSome = true → stillK σ7 b := fun b hb h => ⟨h, fun hs => by rw [t7] at hs; have := hSW b hs; omega⟩
  refine opsW_spawn (d := dBorn s3 s5 s1 s2) (c := s4) (items := items.map prv) (room := room) rfl rfl (by intro c e; cases e) (fun w => ⟨by simp [execOp, resolve, Act.eval, Deferred.ofValue, go_sem], by simp [execOp, resolve, Act.eval, Deferred.ofValue, go_sem]⟩) rfl t1 t2 t3 (fun h => ?_) (by rw [hw7 s4 (by omega) (by omega) (by omega) (by omega)]; exact e4) t4 (fun w hl hlay => workerBorn (a0 := a0) (n := n) (cap := cap) (K := stillK σ7) ?_) ?_
  · rcases (F7 s4).1 h with (((h | h) | h) | h) | h
    · exact n4 h
    all_goals omega
  · refine ⟨?_, (cell_row1 (hlay _ _ L5)).1, (cell_row1 (hlay _ _ L1)).1, ?_, fun i b o x h1 h2 => ?_, hI.nil, hI.shape, hk _ (by omega) (by rw [L3]; rfl), hk _ (by omega) (by rw [L5]; rfl), hk _ (by omega) (by rw [L1]; rfl), hk _ (by omega) (by rw [L2]; rfl), fun ad h1 h2 => ?_, hI.len, hI.small, hl⟩
    · rw [t5]; exact (cell_row1 (hlay _ _ L3)).1
    · rw [t6]; exact (cell_row1 (hlay _ _ L2)).1
    · have hi := (List.getElem?_eq_some_iff.1 h2).1
      have := hI.len
      obtain ⟨ob, hb, _, h4⟩ := hI.row b o h1 (by omega)
      exact h4 w i x (hlay _ _ (by rw [Lo _ (hL _ (by rw [hb]; rfl))]; exact hb)) h2
    · obtain ⟨b, o, rfl⟩ := hI.shape ad h1
      obtain ⟨ob, hb, h3, _⟩ := hI.row b o h1 h2
      exact ⟨by show (σ7.lay b).isSome = true; rw [Lo _ (hL _ (by rw [hb]; rfl)), hb]; rfl, by rw [t7]; exact h3⟩
  walk_nrm
  refine opsW_nil ?_
  show wpW _ _ _ _ _ _ _ _ _ _ _
  refine wpW_seq (wpW_region ?_)
  simp only [List.size_toArray, List.length_cons, List.length_nil, Nat.reduceAdd, Nat.zero_add, List.range, List.range.loop]
  have hr : Sr σ pw (spawned σ7 s4 (items.map prv) room) (killW Try.prog w7 s4) s4 (items.map prv) room := by
    have hks : (killW Try.prog w7 s4).heap.size = w6.heap.size := by rw [← hs7]; simp [killW]
    have hgz := gB.size
    refine ⟨t8, ?_, t5, t6, t2.trans hc.symm, rfl, t3.trans hd0.symm, rfl, t7, t12, ?_, ?_, fun x o hx => ?_, fun x hx => ?_, fun x hx => ?_, fun x hx => ?_, fun x hx => ?_, by omega, ho7.1.trans gB.os, ho7.2.trans gB.output⟩
    · show σ7.n + 1 = _; rw [t9]
    · show upd σ7.rem (σ7.first + σ7.n) _ = _; rw [t8, t9, t11]
    · show upd σ7.ch (σ7.first + σ7.n) _ = _; rw [t8, t9, t10]
    · show σ7.lay x = some o; rw [Lo _ (hL _ (by rw [hx]; rfl))]; exact hx
    · have hx' : (σ7.lay x).isSome = true := hx
      rw [hks]
      rw [L] at hx'
      by_cases h5 : x = s5
      · exact .inr ⟨by omega, by omega, .inl ((F7 x).2 (.inr h5))⟩
      rw [if_neg h5] at hx'
      by_cases h3 : x = s3
      · exact .inr ⟨by omega, by omega, .inl ((F7 x).2 (.inl (.inr h3)))⟩
      rw [if_neg h3] at hx'
      by_cases h2 : x = s2
      · exact .inr ⟨by omega, by omega, .inl ((F7 x).2 (.inl (.inl (.inr h2))))⟩
      rw [if_neg h2] at hx'
      by_cases h1 : x = s1
      · exact .inr ⟨by omega, by omega, .inl ((F7 x).2 (.inl (.inl (.inl (.inr h1)))))⟩
      rw [if_neg h1] at hx'
      exact .inl hx'
    · exact .inl ((F7 x).2 (.inl (.inl (.inl (.inl (gB.f0 x hx))))))
    · rw [hks]
      rcases hx with hx | hx
      · rcases (F7 x).1 hx with (((h | h) | h) | h) | h
        · exact gB.f1 x h
        all_goals exact .inr ⟨by omega, by omega⟩
      · exact .inr ⟨by omega, by omega⟩
    · rw [kill_ne (by omega), hw7 x (by omega) (by omega) (by omega) (by omega)]
      exact gB.low x hx
  have hGWr : ∀ b, (spawned σ7 s4 (items.map prv) room).F b → Try.prog.globals.size ≤ b ∧ b < (killW Try.prog w7 s4).heap.size := fun b hb => by
    have := hr.size
    rcases hr.f1 b hb with h | h
    · have := hGW b h; exact ⟨this.1, by omega⟩
    · exact ⟨by omega, h.2⟩
  refine opsW_still (ob := oC (.chan (some s4))) (x := s5) (v := .chan (some s4)) rfl rfl (by intro c e; cases e) L5 (fun h => by have h' : σ7.SW s5 := h; rw [t7] at h'; have := hSW _ h'; omega) (.inl ((F7 s5).2 (.inr rfl))) (fun w hw => ?_) ?_
  · have hx := (cell_row1 hw).1
    refine ⟨by go_simp, fun e he => ?_⟩
    simp [go_sem, *] at he
    subst he
    exact ⟨_, _, rfl, rfl⟩
  walk_nrm
  refine opsW_read calmM hGWr (by have := hr.size; omega) rfl rfl rfl (fun κ t d K hK => ?_)
  go_simp
  refine hK _ ?_
  clear hK
  walk_nrm
  refine opsW_nil ?_
  show wpW _ _ _ _ _ _ _ _ _ _ _
  refine wpW_ret ?_
  exact hQ _ _ _ rfl (hn _ _ _ hr)
end
end Go.Proofs.Ytmllcfkgkkbkpaa.Pr
/-
  ROWS OF pairs, lone.
-/
namespace Go.Proofs.Ytmllcfkgkkbkpaa.Pr
open Go Go.RowKit
/-- The cells of pairs. -/
def pc : List PV → List Value
  | [] => []
  | x :: L => .string x.1 :: .int .i64 x.2 :: pc L
theorem pc_length (L : List PV) : (pc L).length = L.length * 2 := by
  induction L with
  | nil => rfl
  | cons x L ih => simp only [pc, List.length_cons, ih]; omega
theorem pc_append (L M : List PV) : pc (L ++ M) = pc L ++ pc M := by
  induction L with
  | nil => rfl
  | cons x L ih => simp only [List.cons_append, pc, ih]
theorem pc_one (L : List PV) : ∀ u ∈ pc L, u.oneCell' = true := by
  induction L with
  | nil => intro u hu; cases hu
  | cons x L ih =>
    intro u hu
    simp only [pc, List.mem_cons] at hu
    rcases hu with rfl | rfl | hu
    · rfl
    · rfl
    · exact ih u hu
theorem pc_get (L : List PV) (i : Nat) (h : i < L.length) : (pc L)[i * 2]? = some (.string L[i].1) ∧ (pc L)[i * 2 + 1]? = some (.int .i64 L[i].2) := by
  induction L generalizing i with
  | nil => simp at h
  | cons x L ih =>
    cases i with
    | zero => simp [pc]
    | succ i =>
      have h2 := ih i (by simpa using h)
      have e1 : (i + 1) * 2 = i * 2 + 1 + 1 := by omega
      rw [e1]
      simpa [pc] using h2
theorem pc_inj : ∀ {L M : List PV}, pc L = pc M → L = M
  | [], [], _ => rfl
  | [], _ :: _, h => by simp [pc] at h
  | _ :: _, [], h => by simp [pc] at h
  | (a, b) :: L, (c, d) :: M, h => by
    simp only [pc, List.cons.injEq, Value.string.injEq, Value.int.injEq, true_and] at h
    obtain ⟨rfl, rfl, h⟩ := h
    rw [pc_inj (L := L) (M := M) h]
/-- The pairs L stand at p. -/
def InP (w : World) (p : Option Addr) (L : List PV) : Prop := InV w p (pc L)
theorem InP.at {w : World} {p : Option Addr} {L : List PV} (h : InP w p L) {k : Nat} (hk : k < L.length) :
    ∃ b o, p = some ⟨b, o, none⟩ ∧ w.cell? ⟨b, o + k * 2, none⟩ = some (.string L[k].1) ∧ w.cell? ⟨b, o + k * 2 + 1, none⟩ = some (.int .i64 L[k].2) := by
  have hl := pc_length L
  obtain ⟨b, o, e, hc⟩ := InV.at h (k := k * 2) (by omega)
  obtain ⟨h1, h2⟩ := pc_get L k hk
  refine ⟨b, o, e, ?_, ?_⟩
  · rw [hc (k * 2) (by omega), ← h1, List.getElem?_eq_getElem]
  · have := hc (k * 2 + 1) (by omega)
    rw [← Nat.add_assoc] at this
    rw [this, ← h2, List.getElem?_eq_getElem]
theorem InP.below {w w' : World} {p : Option Addr} {L : List PV} (h : InP w p L) (hb : Below w.heap.size w w') : InP w' p L := InV.below h hb
theorem InP.re {w : World} {p : Option Addr} {L : List PV} (h : InP w p L) (t : Nat → Question → Nat) (d : Nat) : InP (w.re t d) p L := h
theorem InP.drewN {w : World} {p : Option Addr} {L : List PV} (h : InP w p L) (n : Nat) : InP (w.drewN n) p L := h
theorem InP.alloc {w : World} {p : Option Addr} {L : List PV} (h : InP w p L) (o : Obj) : InP (w.alloc o) p L := h.below ((Below.refl _ w).alloc (Nat.le_refl _) o)
theorem InP.one (w : World) (x : ByteArray) (y : Int) : InP (w.alloc (.cells #[.string x, .int .i64 y] tP)) (some ⟨w.heap.size, 0, none⟩) [(x, y)] := InV.lit w _ _ _ _ rfl
theorem InP.none (w : World) (p : Option Addr) : InP w p [] := fun h => absurd h (by simp [pc])
/-- A row of the call's own. -/
def OwnP (w : World) (base : Nat) (v : Value) (L : List PV) : Prop := w.ownsRow base tP 2 v L.length (pc L)
theorem infoP : (Try.prog.info? tP).map (fun i => (i.zero, i.size, i.bytes)) = some (some (.agg #[.string ⟨#[]⟩, .int .i64 0]), 2, 24) := by kernel_rfl
theorem OwnP.nil (w : World) (base : Nat) : OwnP w base (.slice none 0 0) [] := World.ownsRow_nil _ _ _ _
theorem OwnP.made (w : World) : OwnP (w.alloc (.cells #[] tP)) w.heap.size (.slice (some ⟨w.heap.size, 0, Option.none⟩) 0 0) [] :=
  ⟨rfl, .inr ⟨w.heap.size, 0, #[], rfl, Nat.le_refl _, heap_alloc_new w _, by simp, by unfold maxLen; omega, rfl, rfl⟩⟩
theorem OwnP.below {w w' : World} {base : Nat} {v : Value} {L : List PV} (h : OwnP w base v L) (hb : Below w.heap.size w w') : OwnP w' base v L := ownsRow_below h hb
theorem OwnP.mono {w : World} {base base' : Nat} {v : Value} {L : List PV} (h : OwnP w base v L) (hb : base' ≤ base) : OwnP w base' v L := ownsRow_mono h hb
theorem OwnP.alloc {w : World} {base : Nat} {v : Value} {L : List PV} (h : OwnP w base v L) (o : Obj) : OwnP (w.alloc o) base v L := World.ownsRow.alloc h o
theorem OwnP.drewN {w : World} {base : Nat} {v : Value} {L : List PV} (h : OwnP w base v L) (n : Nat) : OwnP (w.drewN n) base v L := h
theorem OwnP.re {w : World} {base : Nat} {v : Value} {L : List PV} (h : OwnP w base v L) (t : Nat → Question → Nat) (d : Nat) : OwnP (w.re t d) base v L := h
theorem OwnP.shape {w : World} {base n : Nat} {v : Value} {L : List PV} (h : OwnP w base v L) (hn : L.length = n) :
    ∃ p c, v = .slice p n c ∧ n ≤ c ∧ c ≤ maxLen ∧ InP w p L ∧ (∀ a, p = some a → base ≤ a.block ∧ a.block < w.heap.size ∧ a.off = 0 ∧ a.spot = Option.none) := by
  subst hn
  have hlt := World.ownsRow.lt h
  have hl := pc_length L
  rcases h.2 with ⟨rfl, hn⟩ | ⟨g, cap, cur, rfl, hb, hg, hnc, hcm, hcs, ht⟩
  · refine ⟨Option.none, 0, by rw [hn], by omega, by unfold maxLen; omega, fun h0 => by omega, fun a ha => by cases ha⟩
  · refine ⟨some ⟨g, 0, Option.none⟩, cap, rfl, hnc, hcm, fun h0 => ⟨g, 0, rfl, fun j hj => ?_⟩, fun a ha => ?_⟩
    · rw [cell_of_row _ _ _ _ _ _ hg, Nat.zero_add, ← Array.getElem?_toList]
      obtain ⟨u, hu⟩ : ∃ u, u = (pc L)[j] := ⟨_, rfl⟩
      have hv : (pc L)[j]? = some u := by rw [hu]; exact List.getElem?_eq_getElem hj
      rw [← hu]
      clear hu
      rw [← ht, List.getElem?_take_of_lt (by omega)] at hv
      exact hv
    · obtain rfl := Option.some.inj ha
      exact ⟨hb, (hlt g rfl).2, rfl, rfl⟩
theorem ownP_grown {w w1 w' : World} {B : Nat} {v : Value} {L : List PV} (hB : Below B w w1) (hs : B ≤ w1.heap.size) (hown : OwnP w1 B v L) (hg : w1.grownBy w' v.ownBlock) : Below B w w' :=
  hB.grown hg hs (fun k e => (World.ownsRow.lt hown k e).1)
theorem srcP {w : World} {p : Option Addr} {M : List PV} {c : Nat} (hin : InP w p M) : Src Try.prog 2 32 (.slice p M.length c) M.length (pc M) w := by
  have hl := pc_length M
  by_cases h0 : 0 < M.length
  · obtain ⟨b, o, rfl, hc⟩ := hin (by omega)
    refine Src.ofSlice w Try.underlying32 ⟨b, o, none⟩ M.length c (pc M) (pc_length M) (fun j u hu => ?_) (pc_one M)
    obtain ⟨hj, rfl⟩ := List.getElem?_eq_some_iff.1 hu
    rw [Go.WideShapes.add_plain]; exact hc j hj
  · obtain rfl : M = [] := List.eq_nil_of_length_eq_zero (by omega)
    cases p with
    | none => exact Src.ofNil w Try.underlying32 c
    | some a => exact Src.ofSlice w Try.underlying32 a 0 c [] rfl (fun j u hu => by simp at hu) (fun u hu => by cases hu)
/-- append of pairs onto pairs of the call's own -/
theorem wpList_appendP {w : World} {ops : Array Oper} {rest : List Oper} {o : Oper} {a : Act} {Q : Exit → Act → World → Prop} (hgd : o.guard = Option.none) (s x : Operand)
    (ho : o.op = .call { callee := .builtin .append, args := #[s, x], argTypes := #[32, 32] })
    (base : Nat) (v : Value) (L : List PV) (hv : a.eval s = v) (hown : OwnP w base v L)
    (p : Option Addr) (m c : Nat) (M : List PV) (hm : M.length = m) (hx : a.eval x = .slice p m c) (hin : InP w p M)
    (hr : L.length + m ≤ 6000000000000) (hbase : base ≤ w.heap.size)
    (h : ∀ v' w', OwnP w' base v' (L ++ M) → w.grownBy w' v.ownBlock → (v' = .slice Option.none 0 0 ↔ v = .slice Option.none 0 0 ∧ m = 0) → wpList Try.prog ops Q rest (a.put o.dst v') w') : wpList Try.prog ops Q (o :: rest) a w := by
  subst hm
  refine wpList_append_fit w hgd s x 32 32 ho base tP (.agg #[.string ⟨#[]⟩, .int .i64 0]) 2 24 Try.underlying32 infoP rfl v L.length (pc L) hv hown _ M.length (pc M) hx (srcP hin) (by unfold maxLen; omega) (by omega) hbase ?_
  intro v' w' ho' hg hn
  exact h v' w' (by unfold OwnP; rw [List.length_append, pc_append]; exact ho') hg hn
end Go.Proofs.Ytmllcfkgkkbkpaa.Pr
/-
  slices.Clone of pairs.
-/
namespace Go.Proofs.Ytmllcfkgkkbkpaa.Pr
open Go Go.RowKit
set_option maxRecDepth 100000 in
set_option maxHeartbeats 4000000 in
theorem cloneP_any {p : Option Addr} {l : List PV} {n c : Nat} (w : World) (hin : InP w p l) (hn : l.length = n) (hs : n ≤ 6000000000000) :
    Calls Try.prog 28 #[.slice p n c] w fun e w' => ∃ v, e = .returned v ∧ OwnP w' w.heap.size v l ∧ Below w.heap.size w w' := by
  go_enter Try.func28, Try.ntmps28
  have q : ∀ (w : World) (a : Option Addr) (n c n' c' : Nat), (binOp .eql 32 (.slice a n c) (.slice none n' c')).run Try.prog w = .ok (.bool a.isNone) w := fun w a n c n' c' => Lib.run_eql_slice_nil w _ _ a n c n' c' Try.underlying32
  cases p with
  | none =>
    have h0 : l = [] := by
      apply Classical.byContradiction
      intro h
      obtain ⟨b, o, e, _⟩ := hin.at (k := 0) (List.length_pos_iff.2 h)
      cases e
    subst h0
    go_wp2
    go_ret
    exact ⟨_, rfl, OwnP.nil _ _, Below.refl _ _⟩
  | some a =>
    have HN := Lib.hid hn
    clear hn
    have hown := OwnP.made w
    have hin1 := hin.alloc (.cells #[] tP)
    go_wp2_with (at_builtin; refine wpList_appendP rfl _ _ rfl w.heap.size _ _ rfl hown _ _ _ _ HN.out rfl hin1 (by simp; omega) (by simp) ?_; intro v2 w2 hown2 hgrow2 _)
    go_ret
    exact ⟨_, rfl, hown2, ownP_grown ((Below.refl _ w).alloc (Nat.le_refl _) _) (by simp) hown hgrow2⟩
end Go.Proofs.Ytmllcfkgkkbkpaa.Pr
/-
  Stream of pairs: it clones what it is handed.
-/
namespace Go.Proofs.Ytmllcfkgkkbkpaa.Pr
open Go Go.RowKit
/-- Rows of ints, in a row. -/
def InLs (w : World) (p : Option Addr) (L : List (List PV)) : Prop :=
  ∃ hs : List Value, InV w p hs ∧ hs.length = L.length ∧ ∀ (i : Nat) (l : List PV), L[i]? = some l → ∃ q c, hs[i]? = some (.slice q l.length c) ∧ InP w q l
theorem InLs.at {w : World} {p : Option Addr} {L : List (List PV)} (h : InLs w p L) {i : Nat} (hi : i < L.length) :
    ∃ b o q c, p = some ⟨b, o, none⟩ ∧ w.cell? ⟨b, o + i, none⟩ = some (.slice q L[i].length c) ∧ InP w q L[i] := by
  obtain ⟨hs, h1, h2, h3⟩ := h
  obtain ⟨b, o, e, hc⟩ := h1.at (k := i) (by omega)
  obtain ⟨q, c, h4, h5⟩ := h3 i _ (List.getElem?_eq_getElem hi)
  refine ⟨b, o, q, c, e, (hc i (by omega)).trans ?_, h5⟩
  rw [← h4, List.getElem?_eq_getElem]
theorem InLs.below {w w' : World} {p : Option Addr} {L : List (List PV)} (h : InLs w p L) (hb : Below w.heap.size w w') : InLs w' p L := by
  obtain ⟨hs, h1, h2, h3⟩ := h
  refine ⟨hs, h1.below hb, h2, fun i l hi => ?_⟩
  obtain ⟨q, c, h4, h5⟩ := h3 i l hi
  exact ⟨q, c, h4, h5.below hb⟩
theorem InLs.re {w : World} {p : Option Addr} {L : List (List PV)} (h : InLs w p L) (t : Nat → Question → Nat) (d : Nat) : InLs (w.re t d) p L := h
/-- What Stream leaves: the box of the clones' headers, the box of the picks. -/
structure StreamAt (w : World) (base base1 bo bp g : Nat) (pa : Option Addr) (pc : Nat) (L : List (List PV)) (picks : List Int) : Prop where
  own : w.cell? ⟨bo, 0, none⟩ = some (.slice (some ⟨g, 0, none⟩) L.length L.length)
  row : ∃ hs, w.ownsRow base 32 1 (.slice (some ⟨g, 0, none⟩) L.length L.length) L.length hs ∧ ∀ (i : Nat) (l : List PV), L[i]? = some l → ∃ v, hs[i]? = some v ∧ OwnP w base1 v l
  bpc : w.cell? ⟨bp, 0, none⟩ = some (.slice pa picks.length pc)
  picks : OwnI w base (.slice pa picks.length pc) picks
  lo : base ≤ bo ∧ base ≤ bp ∧ base ≤ g ∧ base ≤ base1
  hi : bo < base1 ∧ bp < base1 ∧ g < base1 ∧ base1 ≤ w.heap.size
  pa : ∀ ad, pa = some ad → ad.block < base1
/-- k clones are made. -/
structure SInv (w : World) (g bo b1 : Nat) (pa : Option Addr) (pn pc : Nat) (N : Nat) (L : List (List PV)) (picks : List Int) (k : Nat) (wr : World) : Prop where
  bel : Below w.heap.size w wr
  bo : wr.cell? ⟨bo, 0, none⟩ = some (.slice (some ⟨g, 0, none⟩) N N)
  bp : wr.cell? ⟨w.heap.size, 0, none⟩ = some (.slice pa pn pc)
  picks : OwnI wr w.heap.size (.slice pa pn pc) picks
  row : ∃ hs, wr.ownsRow w.heap.size 32 1 (.slice (some ⟨g, 0, none⟩) N N) N hs ∧ (∀ (i : Nat) (l : List PV), i < k → L[i]? = some l → ∃ v, hs[i]? = some v ∧ OwnP wr b1 v l) ∧ (∀ i, k ≤ i → i < N → hs[i]? = some (.slice none 0 0))
  size : b1 ≤ wr.heap.size
theorem SInv.below {w wr w' : World} {g bo b1 : Nat} {pa : Option Addr} {pn pc N k : Nat} {L : List (List PV)} {picks : List Int} (h : SInv w g bo b1 pa pn pc N L picks k wr) (hb : Below wr.heap.size wr w') : SInv w g bo b1 pa pn pc N L picks k w' := by
  obtain ⟨hs, h1, h2, h3⟩ := h.row
  refine ⟨h.bel.trans (hb.mono h.bel.size), (hb.cell (World.block_lt_of_cell? wr _ h.bo)).trans h.bo, (hb.cell (World.block_lt_of_cell? wr _ h.bp)).trans h.bp, h.picks.below hb, ⟨hs, ownsRow_below h1 hb, fun i l hi hl => ?_, h3⟩, Nat.le_trans h.size hb.size⟩
  obtain ⟨v, h4, h5⟩ := h2 i l hi hl
  exact ⟨v, h4, h5.below hb⟩
theorem SInv.step {w wr w' : World} {g bo b1 : Nat} {pa : Option Addr} {pn pc N k : Nat} {L : List (List PV)} {picks : List Int} {l : List PV} {v : Value} (h : SInv w g bo b1 pa pn pc N L picks k wr) (hb : Below wr.heap.size wr w') (hk : k < N) (hl : L[k]? = some l) (hv : OwnP w' wr.heap.size v l)
    (hg1 : g < b1) (hg2 : w.heap.size < g) (hg3 : g ≠ bo) (hpa : ∀ ad, pa = some ad → ad.block < g) : SInv w g bo b1 pa pn pc N L picks (k + 1) (w'.setCell ⟨g, k, none⟩ v) := by
  have h' := h.below hb
  obtain ⟨hs, h1, h2, h3⟩ := h'.row
  have hst := World.ownsRow.stored h1 k v
  have hle : b1 ≤ wr.heap.size := h.size
  refine ⟨h'.bel.setCell (by show w.heap.size ≤ g; omega) v, ?_, ?_, own_other h'.picks fun e => ?_, ⟨hs.set k v, hst.1, fun i l' hi hl' => ?_, fun i hi hN => ?_⟩, by simp; exact h'.size⟩
  · rw [World.cell?_setCell_other _ _ _ _ (by simp <;> omega)]; exact h'.bo
  · rw [World.cell?_setCell_other _ _ _ _ (by simp <;> omega)]; exact h'.bp
  · cases pa with
    | none => cases e
    | some ad =>
      have h4 := hpa ad rfl
      obtain ⟨a, b, c⟩ := ad
      simp only [Value.ownBlock, Option.some.injEq] at e
      simp only at h4
      omega
  · by_cases e : i = k
    · subst e
      rw [hl] at hl'
      cases hl'
      have hlen : i < hs.length := by have := h1.1; omega
      refine ⟨v, by rw [List.getElem?_set_self hlen], own_other (hv.mono h.size) fun e => ?_⟩
      have := (World.ownsRow.lt hv g e).1
      omega
    · obtain ⟨u, h4, h5⟩ := h2 i l' (by omega) hl'
      refine ⟨u, by rw [List.getElem?_set_ne (by omega)]; exact h4, own_other h5 fun e => ?_⟩
      have := (World.ownsRow.lt h5 g e).1
      omega
  · rw [List.getElem?_set_ne (by omega)]
    exact h3 i (by omega) hN
theorem infoL : (Try.prog.info? 32).map (fun i => (i.zero, i.size, i.bytes)) = some (some (.slice none 0 0), 1, 24) := by kernel_rfl
set_option maxRecDepth 100000 in
set_option maxHeartbeats 4000000 in
theorem streamP_any {pi pp : Option Addr} {L : List (List PV)} {picks : List Int} {N ci pn pc : Nat} (w : World) (hin : InLs w pi L) (hN : L.length = N) (hs : N < 1000000) (hl : ∀ l ∈ L, l.length < 1000000000000) (hp : InI w pp picks) (hpn : picks.length = pn) (hps : pn ≤ 20000000000000) :
    Calls Try.prog 20 #[.slice pi N ci, .slice pp pn pc] w fun e w' => ∃ base1 bo bp g pa pc', e = .returned (.func (.func 29) #[] #[.pointer (some ⟨bo, 0, none⟩), .pointer (some ⟨bp, 0, none⟩)]) ∧ StreamAt w' w.heap.size base1 bo bp g pa pc' L picks ∧ Below w.heap.size w w' := by
  have HN := Lib.hid hN
  have HPN := Lib.hid hpn
  clear hN
  go_enter Try.func20, Try.ntmps20
  go_wp2_with fail
  have hb0 : Below w.heap.size w (w.alloc (.cells #[.slice pp pn pc] 23)) := (Below.refl _ w).alloc (Nat.le_refl _) _
  refine (cloneI_any _ (hp.below hb0) hpn hps).mono ?_
  rintro e w1 ⟨v, rfl, hv, hb1⟩
  obtain ⟨pa, c1, rfl, _, _, _, hpa⟩ := hv.shape hpn
  simp only [World.size_alloc] at hv hb1 hpa
  have hsz1 : w.heap.size + 1 ≤ w1.heap.size := by have := hb1.size; simp only [World.size_alloc] at this; exact this
  have hbox : w1.cell? ⟨w.heap.size, 0, none⟩ = some (.slice pp pn pc) := by
    rw [hb1.cell (p := ⟨w.heap.size, 0, none⟩) (by show w.heap.size < w.heap.size + 1; omega)]
    exact (cell_of_row _ _ _ _ _ _ (heap_alloc_new w _))
  have hfz : w1.frozen? ⟨w.heap.size, 0, none⟩ = false := by
    rw [Below.frozen hb1 (p := ⟨w.heap.size, 0, none⟩) (by show w.heap.size < w.heap.size + 1; omega)]
    exact (frozen_of_row _ _ _ _ _ (heap_alloc_new w _))
  have hmk : ∀ W : World, (Instr.makeSlice 31 (.int .i64 (N : Int)) (.int .i64 (N : Int))).run Try.prog W = .ok (.slice (some ⟨W.heap.size, 0, none⟩) N N) (W.alloc (.cells (madeCells #[.slice none 0 0] N) 32)) := by
    intro W
    obtain ⟨i, hi, hz, hz1, hz2⟩ := info_parts infoL
    have := run_makeSlice (P := Try.prog) W 31 32 i (.slice none 0 0) Try.underlying31 hi hz .i64 .i64 N N (by omega) (by omega) (by rw [hz1]; omega) (by rw [hz2]; omega) (by omega)
    rw [hz1] at this
    simp only [Int.toNat_natCast, Nat.mul_one] at this
    exact this
  go_wp2_with fail
  have hrel0 : SInv w w1.heap.size (w1.heap.size + 1) (w1.heap.size + 2) pa pn c1 N L picks 0 (((w1.setCell ⟨w.heap.size, 0, none⟩ (.slice pa pn c1)).alloc (.cells (madeCells #[.slice none 0 0] N) 32)).alloc (.cells #[.slice (some ⟨w1.heap.size, 0, none⟩) N N] 31)) := by
    obtain ⟨ws, hws⟩ : ∃ ws, ws = w1.setCell ⟨w.heap.size, 0, none⟩ (.slice pa pn c1) := ⟨_, rfl⟩
    have hss : ws.heap.size = w1.heap.size := by rw [hws]; simp
    have hb2 : Below w.heap.size w ws := by
      rw [hws]
      exact (hb0.trans (hb1.mono (by simp))).setCell (by show w.heap.size ≤ w.heap.size; omega) _
    have hcs : ws.cell? ⟨w.heap.size, 0, none⟩ = some (.slice pa pn c1) := by
      rw [hws]
      exact World.cell?_setCell_same _ _ _ (by rw [hbox])
    have hps2 : OwnI ws w.heap.size (.slice pa pn c1) picks := by
      rw [hws]
      refine own_other (ownsRow_mono hv (by omega)) fun e => ?_
      have := (World.ownsRow.lt hv w.heap.size e).1
      omega
    rw [← hws, ← hss]
    have hsz : w.heap.size ≤ ws.heap.size := by omega
    refine ⟨(hb2.alloc hsz _).alloc (by simp <;> omega) _, ?_, ?_, ?_, ⟨(madeCells #[.slice none 0 0] N).toList, World.ownsRow.alloc (World.ownsRow_lit _ _ N hsz (by unfold maxLen; omega) (by rw [size_madeCells]; omega)) _, fun i l hi => absurd hi (by omega), fun i _ hi => ?_⟩, by simp⟩
    · exact cell_of_row _ _ _ _ _ _ (by
        have := heap_alloc_new (ws.alloc (.cells (madeCells #[.slice none 0 0] N) 32)) (.cells #[.slice (some ⟨ws.heap.size, 0, none⟩) N N] 31)
        rw [World.size_alloc] at this
        exact this)
    · exact cell_past (cell_past hcs _) _
    · exact (hps2.alloc _).alloc _
    · rw [toList_madeCells_one, List.getElem?_replicate, if_pos hi]
  generalize (((w1.setCell ⟨w.heap.size, 0, none⟩ (.slice pa pn c1)).alloc (.cells (madeCells #[.slice none 0 0] N) 32)).alloc (.cells #[.slice (some ⟨w1.heap.size, 0, none⟩) N N] 31)) = w2 at hrel0 ⊢
  go_loopw [15] (fun i wr => ∃ k, k ≤ N ∧ i = .int .i64 k ∧ SInv w w1.heap.size (w1.heap.size + 1) (w1.heap.size + 2) pa pn c1 N L picks k wr) (fun i _ => N + 1 - (intOf i).toNat)
  case atStart => exact ⟨0, by omega, rfl, hrel0⟩
  case round =>
    obtain ⟨k, hk, rfl, hS⟩ := hrel
    by_cases hlt : k < N
    · have hbs := hS.bel.size
      have hkL : k < L.length := by rw [HN.out]; exact hlt
      obtain ⟨b, o, q, c, rfl, hcell, hitem⟩ := (hin.below hS.bel).at hkL
      obtain ⟨l, hll⟩ : ∃ l, l = L[k] := ⟨_, rfl⟩
      rw [← hll] at hcell hitem
      have hlL : L[k]? = some l := by rw [hll]; exact List.getElem?_eq_getElem hkL
      have hln : l.length ≤ 1000000000000 := by have := hl l (by rw [hll]; exact List.getElem_mem hkL); omega
      have HLL := Lib.hid hlL
      have HS := Lib.hid hS
      obtain ⟨hs0, hrow, _, hnil⟩ := hS.row
      have hck : wr.cell? ⟨w1.heap.size, k, none⟩ = some (.slice none 0 0) := by
        rw [World.ownsRow.cellAt hrow k (by omega)]
        exact hnil k (Nat.le_refl _) hlt
      have hfk : wr.frozen? ⟨w1.heap.size, k, none⟩ = false := World.ownsRow.frozenAt hrow k
      have hg : w1.heap.size < wr.heap.size := by have := hS.size; omega
      obtain ⟨S, hSS⟩ : ∃ S : World → Prop, S = fun W => W.cell? ⟨w1.heap.size + 1, 0, none⟩ = some (.slice (some ⟨w1.heap.size, 0, none⟩) N N) := ⟨_, rfl⟩
      have HSS := Lib.hid (fun W => show S W ↔ W.cell? ⟨w1.heap.size + 1, 0, none⟩ = some (.slice (some ⟨w1.heap.size, 0, none⟩) N N) by rw [hSS])
      have HK0 := Lib.hid (show S wr.drew by rw [hSS]; exact hS.bo)
      have HCL := Lib.hid (show Calls Try.prog 28 #[.slice q l.length c] wr.drew fun e w' => ∃ qv cv, e = .returned (.slice qv l.length cv) ∧ OwnP w' wr.heap.size (.slice qv l.length cv) l ∧ Below wr.heap.size wr w' ∧ w'.cell? ⟨w1.heap.size, k, none⟩ = some (.slice none 0 0) ∧ w'.frozen? ⟨w1.heap.size, k, none⟩ = false ∧ S w' ∧ S (w'.setCell ⟨w1.heap.size, k, none⟩ (.slice qv l.length cv)) from
        (cloneP_any wr.drew (hitem.below (Below.refl _ wr).drew) rfl (by omega)).mono fun _ w' ⟨v, h1, h2, h3⟩ => by
          obtain ⟨qv, cv, rfl, _, _, _⟩ := h2.shape rfl
          have hb4 : Below wr.heap.size wr w' := ((Below.refl _ wr).drew).trans h3
          have hbo : w'.cell? ⟨w1.heap.size + 1, 0, none⟩ = some (.slice (some ⟨w1.heap.size, 0, none⟩) N N) := (hb4.cell (World.block_lt_of_cell? wr _ hS.bo)).trans hS.bo
          refine ⟨qv, cv, h1, h2, hb4, (hb4.cell (World.block_lt_of_cell? wr _ hck)).trans hck, (hb4.frozen hg).trans hfk, by rw [hSS]; exact hbo, ?_⟩
          rw [hSS]
          exact (World.cell?_setCell_other _ _ _ _ (by simp)).trans hbo)
      clear hSS hlL hll hS hrow hnil hitem hck hfk
      go_wp2_with fail
      go_region_held3 (fun W => W.cell? ⟨w1.heap.size + 1, 0, none⟩ = some (.slice (some ⟨w1.heap.size, 0, none⟩) N N))
        (first | (with_reducible exact (HSS.out _).1 HK0.out) | (with_reducible exact (HSS.out _).1 HK1.out) | (with_reducible exact (HSS.out _).1 HK2.out))
        (first
          | (go_at_call 28; with_reducible refine HCL.out.mono ?_; rintro e w4 ⟨qv, cv, rfl, hown4, hb4, hc4, hf4, hk1, hk2⟩; have HK1 := Lib.hid hk1; have HK2 := Lib.hid hk2; have HO4 := Lib.hid (And.intro hown4 hb4); clear hk1 hk2 hown4 hb4))
      all_goals
        go_wp2_with fail
        go_roundw
        case rel => exact ⟨k + 1, by omega, by go_num, HS.out.step HO4.out.2 hlt HLL.out HO4.out.1 (by omega) (by omega) (by omega) (fun ad h => (hpa ad h).2.1)⟩
        case measure => simp [intOf]; omega
    · obtain rfl : k = N := by omega
      go_wp2_with fail
      go_ret
      obtain ⟨hs0, h1, h2, _⟩ := hS.row
      have hN := HN.out
      refine ⟨_, _, _, _, pa, c1, rfl, ⟨by rw [hN]; exact hS.bo, ⟨hs0, by rw [hN]; exact h1, fun i l hi => h2 i l ?_ hi⟩, by rw [hpn]; exact hS.bp, by rw [hpn]; exact hS.picks, ⟨by omega, by omega, by omega, by omega⟩, ⟨by omega, by omega, by omega, hS.size⟩, fun ad h => ?_⟩, hS.bel⟩
      · rw [← hN]; exact (List.getElem?_eq_some_iff.1 hi).1
      · have := (hpa ad h).2.1
        omega
end Go.Proofs.Ytmllcfkgkkbkpaa.Pr
/-
  ROWS OF rows of pairs that a call owns; append.
-/
namespace Go.Proofs.Ytmllcfkgkkbkpaa.Pr
open Go Go.RowKit
/-- A row of the call's own whose things are rows of the call's own. -/
def OwnPs (w : World) (base : Nat) (v : Value) (L : List (List PV)) : Prop :=
  ∃ hs : List Value, w.ownsRow base 32 1 v L.length hs ∧ ∀ (i : Nat) (l : List PV), L[i]? = some l → ∃ u, hs[i]? = some u ∧ OwnP w base u l
theorem OwnPs.below {w w' : World} {base : Nat} {v : Value} {L : List (List PV)} (h : OwnPs w base v L) (hb : Below w.heap.size w w') : OwnPs w' base v L := by
  obtain ⟨hs, h1, h2⟩ := h
  exact ⟨hs, ownsRow_below h1 hb, fun i l hi => let ⟨u, h3, h4⟩ := h2 i l hi; ⟨u, h3, h4.below hb⟩⟩
theorem OwnPs.mono {w : World} {base base' : Nat} {v : Value} {L : List (List PV)} (h : OwnPs w base v L) (hb : base' ≤ base) : OwnPs w base' v L := by
  obtain ⟨hs, h1, h2⟩ := h
  exact ⟨hs, ownsRow_mono h1 hb, fun i l hi => let ⟨u, h3, h4⟩ := h2 i l hi; ⟨u, h3, h4.mono hb⟩⟩
theorem OwnPs.alloc {w : World} {base : Nat} {v : Value} {L : List (List PV)} (h : OwnPs w base v L) (o : Obj) : OwnPs (w.alloc o) base v L := h.below ((Below.refl _ w).alloc (Nat.le_refl _) o)
theorem OwnPs.drewN {w : World} {base : Nat} {v : Value} {L : List (List PV)} (h : OwnPs w base v L) (n : Nat) : OwnPs (w.drewN n) base v L := h
theorem OwnPs.made (w : World) : OwnPs (w.alloc (.cells #[] 32)) w.heap.size (.slice (some ⟨w.heap.size, 0, none⟩) 0 0) [] :=
  ⟨[], World.ownsRow_made w #[] 0 (Nat.le_refl _) (by unfold maxLen; omega) rfl, fun i l hi => by simp at hi⟩
theorem OwnPs.shape {w : World} {base n : Nat} {v : Value} {L : List (List PV)} (h : OwnPs w base v L) (hn : L.length = n) : ∃ p c, v = .slice p n c ∧ n ≤ c ∧ c ≤ maxLen ∧ InLs w p L ∧ (∀ a, p = some a → base ≤ a.block ∧ a.block < w.heap.size) := by
  subst hn
  obtain ⟨hs, h1, h2⟩ := h
  obtain ⟨p, c, e, h3, h4, h5, h6⟩ := owns_shapeV h1
  refine ⟨p, c, e, h3, h4, ⟨hs, h5, by have := h1.1; omega, fun i l hi => ?_⟩, fun a ha => ⟨(h6 a ha).1, (h6 a ha).2.1⟩⟩
  obtain ⟨u, h7, h8⟩ := h2 i l hi
  obtain ⟨q, c2, rfl, _, _, h9, _⟩ := h8.shape rfl
  exact ⟨q, c2, h7, h9⟩
theorem rows_apart {w : World} {b b' n n' : Nat} {v u : Value} {xs : List Value} {l : List PV} (h : w.ownsRow b 32 1 v n xs) (h' : w.ownsRow b' tP 2 u n' (pc l)) : ∀ g, u.ownBlock = some g → some g ≠ v.ownBlock := by
  intro g hg hg'
  rcases h.2 with ⟨rfl, _⟩ | ⟨g1, _, _, rfl, _, h1, _⟩
  · cases hg'
  · rcases h'.2 with ⟨rfl, _⟩ | ⟨g2, _, _, rfl, _, h2, _⟩
    · cases hg
    · obtain rfl : g2 = g := by simpa [Value.ownBlock] using hg
      obtain rfl : g2 = g1 := by simpa [Value.ownBlock] using hg'
      rw [h1] at h2
      cases h2
theorem keepP {w w' : World} {base : Nat} {u : Value} {l : List PV} (h : OwnP w base u l) (hk : ∀ g, g < w.heap.size → u.ownBlock = some g → w'.heap[g]? = w.heap[g]?) : OwnP w' base u l := by
  refine ⟨h.1, h.2.imp _root_.id ?_⟩
  rintro ⟨g, cap, cur, rfl, hb, hg, hr⟩
  exact ⟨g, cap, cur, rfl, hb, (hk g (Array.getElem?_eq_some_iff.1 hg).1 rfl).trans hg, hr⟩
/-- append of one row onto rows of the call's own -/
theorem wpList_appendPs {w : World} {ops : Array Oper} {rest : List Oper} {o : Oper} {a : Act} {Q : Exit → Act → World → Prop} (hgd : o.guard = Option.none) (s x : Operand)
    (ho : o.op = .call { callee := .builtin .append, args := #[s, x], argTypes := #[31, 31] })
    (base : Nat) (v : Value) (L : List (List PV)) (hv : a.eval s = v) (hown : OwnPs w base v L)
    (p : Option Addr) (c : Nat) (u : Value) (l : List PV) (hx : a.eval x = .slice p 1 c) (hin : InV w p [u]) (hu : OwnP w base u l)
    (hr : L.length + 1 ≤ 1000000000) (hbase : base ≤ w.heap.size)
    (h : ∀ v' w', OwnPs w' base v' (L ++ [l]) → w.grownBy w' v.ownBlock → wpList Try.prog ops Q rest (a.put o.dst v') w') : wpList Try.prog ops Q (o :: rest) a w := by
  obtain ⟨hs, h1, h2⟩ := hown
  obtain ⟨q, cq, rfl, _⟩ := hu.shape rfl
  have hlen : hs.length = L.length := by have := h1.1; omega
  refine wpList_append_fit w hgd s x 31 31 ho base 32 (.slice Option.none 0 0) 1 24 Try.underlying31 infoL rfl v L.length hs hv h1 _ 1 [.slice q l.length cq] hx (by have := srcV (c := c) Try.underlying31 hin (by simp [Value.oneCell']); simpa using this) (by unfold maxLen; omega) (by omega) hbase ?_
  intro v' w' ho' hg _
  have low : ∀ {u' : Value} {l' : List PV}, OwnP w base u' l' → OwnP w' base u' l' := fun hu' => keepP hu' fun g hg1 e => hg.block g hg1 fun e2 => rows_apart h1 hu' g e e2
  refine h v' w' ⟨hs ++ [.slice q l.length cq], by rw [List.length_append]; exact ho', fun i l' hi => ?_⟩ hg
  by_cases hi2 : i < L.length
  · rw [List.getElem?_append_left hi2] at hi
    obtain ⟨u', h3, h4⟩ := h2 i l' hi
    exact ⟨u', by rw [List.getElem?_append_left (by omega)]; exact h3, low h4⟩
  · have hi3 := (List.getElem?_eq_some_iff.1 hi).1
    simp only [List.length_append, List.length_singleton] at hi3
    obtain rfl : i = L.length := by omega
    rw [List.getElem?_append_right (Nat.le_refl _), Nat.sub_self] at hi
    cases hi
    exact ⟨_, by rw [List.getElem?_append_right (by omega), show L.length - hs.length = 0 by omega]; rfl, low hu⟩
theorem ownPs_grown {w w1 w' : World} {B : Nat} {v : Value} {L : List (List PV)} (hB : Below B w w1) (hs : B ≤ w1.heap.size) (hown : OwnPs w1 B v L) (hg : w1.grownBy w' v.ownBlock) : Below B w w' := by
  obtain ⟨hs0, h1, _⟩ := hown
  exact hB.grown hg hs (fun k e => (World.ownsRow.lt h1 k e).1)
end Go.Proofs.Ytmllcfkgkkbkpaa.Pr
