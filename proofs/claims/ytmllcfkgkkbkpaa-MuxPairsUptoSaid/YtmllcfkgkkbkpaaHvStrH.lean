/-
  Stream's CLOSURE: from its entry to the head of its first loop.
-/
import Derived.Test.YtmllcfkgkkbkpaaPk5
namespace Go.Proofs.Ytmllcfkgkkbkpaa
open Go Go.Conc Go.RowKit Go.Conc.Lib Go.ConcR.Gen
open Go.ConcN (upd upd_ne upd_same WgLive)
open Go.ConcR (KK wgBlock WgAt stA smA rd wr mk DC0)
noncomputable def bodyT : Code := (Try.f22.body).getD .skip
noncomputable def blockT1 : Code := match bodyT with
  | .seq _ (.seq _ (.seq _ (.seq _ (.seq _ (.seq _ (.seq (.seq _ x) _)))))) => x
  | _ => .skip
noncomputable def restT : Code := match bodyT with
  | .seq _ (.seq _ (.seq _ (.seq _ (.seq _ (.seq _ (.seq _ x)))))) => x
  | _ => .skip
def headW0 (P : Program) (pw : World) : World := (killW P (pw.alloc (wgBlock 57 0 0)) pw.heap.size).alloc (.chan 0 #[] false 0 0 false)
def headW (P : Program) (pw : World) : World := killW P (headW0 P pw) (pw.heap.size + 1)
theorem killW_size {P : Program} {w : World} {b : Nat} : (killW P w b).heap.size = w.heap.size := by simp [killW]
theorem headW0_low {P : Program} {pw : World} {x : Nat} (h : x < pw.heap.size) : (headW0 P pw).heap[x]? = pw.heap[x]? := by
  unfold headW0
  rw [alloc_other (by rw [killW_size, World.size_alloc]; omega), kill_ne (by omega), alloc_other h]
theorem headW0_q {P : Program} {pw : World} : (headW0 P pw).heap[pw.heap.size + 1]? = some (.chan 0 #[] false 0 0 false) := by
  have e : pw.heap.size + 1 = (killW P (pw.alloc (wgBlock 57 0 0)) pw.heap.size).heap.size := by rw [killW_size, World.size_alloc]
  unfold headW0
  rw [e]
  exact alloc_self
theorem ntT : Try.f22.ntmps = 75 := by kernel_rfl
theorem app75 (a b c : Value) : (#[a, b, c] : Array Value) ++ Array.replicate (75 - (#[a, b, c] : Array Value).size) undef = #[a, b, c, undef, undef, undef, undef, undef, undef, undef, undef, undef, undef, undef, undef, undef, undef, undef, undef, undef, undef, undef, undef, undef, undef, undef, undef, undef, undef, undef, undef, undef, undef, undef, undef, undef, undef, undef, undef, undef, undef, undef, undef, undef, undef, undef, undef, undef, undef, undef, undef, undef, undef, undef, undef, undef, undef, undef, undef, undef, undef, undef, undef, undef, undef, undef, undef, undef, undef, undef, undef, undef, undef, undef, undef] := by
  apply Array.ext'
  simp [List.replicate]
section
variable {P : Program} {ty : TypeId} {z z' : Value} {Post : Value → World → Prop} {σ : Ph} {pw : World} {fn : Frame → Prop} {Q : Exit → Act → Ph → World → Prop} {a : Act}
theorem wpM_begin {c : Code} {Wg q : Nat} (ht : σ.tag = .idle) (hlay : σ.lay Wg = some (wgBlock ty 0 0)) (hSW : σ.SW Wg) (hq : ¬ σ.F q) (hqw : pw.heap[q]? = some (.chan 0 #[] false 0 0 false)) (h : wpM P ty z z' Post fn c Q a (begun1 σ Wg q) (killW P pw q)) : wpM P ty z z' Post fn c Q a σ pw := fun b k cs h1 h2 h3 => mv_begin ht hlay hSW hq hqw (h b k cs h1 h2 h3)
end
section
theorem run_mkQ (w : World) : Sem.run Try.prog (Instr.makeChan 58 (.int .i64 0)) w = .ok (.chan (some w.heap.size)) (w.alloc (.chan 0 #[] false 0 0 false)) := by
  obtain ⟨i, hi, hb⟩ : ∃ i, Try.prog.info? 48 = some i ∧ i.bytes = 0 := ⟨_, rfl, rfl⟩
  exact run_makeChan (P := Try.prog) Try.underlying58 hi .i64 0 (by omega) (by rw [hb]; omega)
theorem ev_mkQ (w : World) : Sem.events Try.prog (Instr.makeChan 58 (.int .i64 0)) w #[] = #[] := by
  obtain ⟨i, hi, hb⟩ : ∃ i, Try.prog.info? 48 = some i ∧ i.bytes = 0 := ⟨_, rfl, rfl⟩
  exact events_makeChan (P := Try.prog) Try.underlying58 hi .i64 0 (by omega) (by rw [hb]; omega) #[]
variable {Post : Value → World → Prop} {σ : Ph} {pw : World} {c : Frame} {cs : List Frame} {Q : Exit → Act → Ph → World → Prop} {fn : Frame → Prop}
set_option maxRecDepth 100000 in
set_option maxHeartbeats 4000000 in
theorem strHead {bo bp l N cap : Nat} {ao : Option Addr} (hB : ∀ b, fn b → b.roundOf = none) (hG : ∀ b, σ.F b → Try.prog.globals.size ≤ b) (hgs : Try.prog.globals.size ≤ pw.heap.size) (hFl : ∀ b, σ.F b → b < pw.heap.size) (ht : σ.tag = .idle)
    (hbo : bo < pw.heap.size) (hown : pw.cell? ⟨bo, 0, none⟩ = some (.slice ao N cap))
    (hn : ∀ T : Array Value, T.size = 75 → T[0]? = some (.func (.yield l) #[] #[]) → T[1]? = some (.pointer (some ⟨bo, 0, none⟩)) → T[2]? = some (.pointer (some ⟨bp, 0, none⟩)) → T[4]? = some (.pointer (some ⟨pw.heap.size, 0, none⟩)) → T[5]? = some (.chan (some (pw.heap.size + 1))) →
      T[6]? = some (.slice none 0 0) → T[7]? = some (.slice none 0 0) → T[17]? = some (.slice ao N cap) → T[18]? = some (.int .i64 N) → T[19]? = some (.int .i64 0) →
      wpM Try.prog wtG zI zS Post fn blockT1 (thenM (fun a σ pw => wpM Try.prog wtG zI zS Post fn restT Q a σ pw) Q) ⟨T, [dCloseA #[58] (pw.heap.size + 1), dcall 23 #[.pointer (some ⟨pw.heap.size, 0, none⟩)]]⟩ (begun1 (grouped σ pw.heap.size (wgBlock wtG 0 0)) pw.heap.size (pw.heap.size + 1)) (headW Try.prog pw)) :
    wpM Try.prog wtG zI zS Post fn bodyT Q ⟨#[.func (.yield l) #[] #[], .pointer (some ⟨bo, 0, none⟩), .pointer (some ⟨bp, 0, none⟩), undef, undef, undef, undef, undef, undef, undef, undef, undef, undef, undef, undef, undef, undef, undef, undef, undef, undef, undef, undef, undef, undef, undef, undef, undef, undef, undef, undef, undef, undef, undef, undef, undef, undef, undef, undef, undef, undef, undef, undef, undef, undef, undef, undef, undef, undef, undef, undef, undef, undef, undef, undef, undef, undef, undef, undef, undef, undef, undef, undef, undef, undef, undef, undef, undef, undef, undef, undef, undef, undef, undef, undef], []⟩ σ pw := by
  have hN : ∀ T, _ := hn
  clear hn
  simp only [bodyT, Try.f22, Option.getD_some]
  refine wpM_seq (wpM_region ?_)
  simp only [List.size_toArray, List.length_cons, List.length_nil, Nat.zero_add, List.range, List.range.loop]
  refine opsM_group (ob := wgBlock wtG 0 0) (f := fun s => .pointer (some ⟨s, 0, none⟩)) ht rfl rfl rfl rfl (by simp) (fun w => ⟨by go_simp; rfl, by simp [go_sem]⟩) ?_
  walk_nrm
  have hG1 : ∀ b, (grouped σ pw.heap.size (wgBlock wtG 0 0)).F b → Try.prog.globals.size ≤ b := fun b hb => by
    rcases hb with hb | hb
    · exact hG b hb
    · omega
  replace hG := hG1
  clear hG1
  refine opsM_nil ?_
  show wpM _ _ _ _ _ _ _ _ _ _ _
  refine wpM_seq (wpM_region ?_)
  simp only [List.size_toArray, List.length_cons, List.length_nil, Nat.reduceAdd, Nat.zero_add, List.range, List.range.loop]
  refine opsM_push (ob := .chan 0 #[] false 0 0 false) (f := fun s => .chan (some s)) rfl rfl rfl (by simp) (fun w => ⟨?_, ?_⟩) ?_
  · go_simp
    rw [run_mkQ]
    rfl
  · simp [go_sem]
    exact ev_mkQ w
  walk_nrm
  refine opsM_k calmM hG rfl rfl rfl (fun t d K hK => ?_)
  go_simp
  refine hK _ _ (opsM_re ?_)
  clear hK
  walk_nrm
  refine opsM_nil ?_
  show wpM _ _ _ _ _ _ _ _ _ _ _
  refine wpM_seq (wpM_region ?_)
  simp only [List.size_toArray, List.length_cons, List.length_nil, Nat.zero_add, List.range, List.range.loop]
  refine opsM_defer (d := dcall 23 #[.pointer (some ⟨pw.heap.size, 0, none⟩)]) hB rfl rfl (fun w => ⟨by simp [execOp, resolve, Act.eval, Deferred.ofValue, dcall, go_sem], by simp [execOp, resolve, Act.eval, Deferred.ofValue, go_sem]⟩) ?_
  walk_nrm
  refine opsM_nil ?_
  show wpM _ _ _ _ _ _ _ _ _ _ _
  refine wpM_seq (wpM_region ?_)
  simp only [List.size_toArray, List.length_cons, List.length_nil, Nat.reduceAdd, Nat.zero_add, List.range, List.range.loop]
  refine opsM_k calmM hG rfl rfl rfl (fun t d K hK => ?_)
  go_simp
  refine hK _ _ (opsM_re ?_)
  clear hK
  walk_nrm
  simp only [killW_size, World.size_alloc]
  refine opsM_defer (d := dCloseA #[58] (pw.heap.size + 1)) hB rfl rfl (fun w => ⟨by simp [execOp, resolve, Act.eval, dCloseA, go_sem], by simp [execOp, resolve, Act.eval, go_sem]⟩) ?_
  walk_nrm
  refine opsM_nil ?_
  show wpM _ _ _ _ _ _ _ _ _ _ _
  refine wpM_seq (wpM_region ?_)
  simp only [List.size_toArray, List.length_cons, List.length_nil, Nat.zero_add, List.range, List.range.loop]
  refine opsM_k calmM hG rfl rfl rfl (fun t d K hK => ?_)
  go_simp
  refine hK _ _ (opsM_re ?_)
  clear hK
  walk_nrm
  refine opsM_nil ?_
  show wpM _ _ _ _ _ _ _ _ _ _ _
  refine wpM_seq (wpM_region ?_)
  simp only [List.size_toArray, List.length_cons, List.length_nil, Nat.zero_add, List.range, List.range.loop]
  refine opsM_k calmM hG rfl rfl rfl (fun t d K hK => ?_)
  go_simp
  refine hK _ _ (opsM_re ?_)
  clear hK
  walk_nrm
  refine opsM_nil ?_
  show wpM _ _ _ _ _ _ _ _ _ _ _
  refine wpM_seq (wpM_seq (wpM_region ?_))
  simp only [List.size_toArray, List.length_cons, List.length_nil, Nat.reduceAdd, Nat.zero_add, List.range, List.range.loop]
  refine opsM_k calmM hG rfl rfl rfl (fun t d K hK => ?_)
  have hc1 : ((headW0 Try.prog pw).re t d).cell? ⟨bo, 0, none⟩ = some (.slice ao N cap) := (World.cell?_of_block (headW0_low hbo)).trans hown
  change uponV _ _ K ((execOp _ _).run _ ((headW0 Try.prog pw).re t d))
  go_simp
  refine hK _ _ (opsM_re ?_)
  clear hK hc1
  walk_nrm
  refine opsM_k calmM hG rfl rfl rfl (fun t d K hK => ?_)
  go_simp
  refine hK _ _ (opsM_re ?_)
  clear hK
  walk_nrm
  refine opsM_k calmM hG rfl rfl rfl (fun t d K hK => ?_)
  go_simp
  refine hK _ _ (opsM_re ?_)
  clear hK
  walk_nrm
  refine opsM_nil ?_
  show wpM _ _ _ _ _ _ _ _ _ _ _
  refine wpM_begin (Wg := pw.heap.size) (q := pw.heap.size + 1) ht ?_ (.inr rfl) (fun h => ?_) headW0_q (hN _ rfl rfl rfl rfl rfl rfl rfl rfl rfl rfl rfl)
  · simp only [grouped, freeze, upd_same]
  · rcases h with h | h
    · have := hFl _ h
      omega
    · omega
end
end Go.Proofs.Ytmllcfkgkkbkpaa
