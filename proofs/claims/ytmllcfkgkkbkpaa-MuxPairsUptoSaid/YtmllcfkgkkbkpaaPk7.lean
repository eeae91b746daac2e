/-
  Stream's CLOSURE, pairs: from its entry to the head of its first loop.
-/
import Derived.Test.YtmllcfkgkkbkpaaHvStrP
import Derived.Test.YtmllcfkgkkbkpaaPk6
namespace Go.Proofs.Ytmllcfkgkkbkpaa.Pr
open Go Go.Conc Go.RowKit Go.Conc.Lib Go.ConcR.Gen
open Go.ConcN (upd upd_ne upd_same WgLive)
open Go.ConcR (KK wgBlock WgAt stA smA rd wr mk DC0)
noncomputable def bodyT : Code := (Try.f29.body).getD .skip
noncomputable def blockT1 : Code := match bodyT with
  | .seq _ (.seq _ (.seq _ (.seq _ (.seq _ (.seq _ (.seq (.seq _ x) _)))))) => x
  | _ => .skip
noncomputable def restT : Code := match bodyT with
  | .seq _ (.seq _ (.seq _ (.seq _ (.seq _ (.seq _ (.seq _ x)))))) => x
  | _ => .skip
theorem ntT : Try.f29.ntmps = 75 := by kernel_rfl
section
variable {P : Program} {ty : TypeId} {z z' : Value} {Post : Value → World → Prop} {σ : Ph} {pw : World} {fn : Frame → Prop} {a : Act} {b : Frame} {k : List Item} {cs : List Frame}
theorem mv_seq0 {x y : Code} (h : MV P ty z z' Post σ (G (b.atR a (.code x :: .code y :: k)) cs) pw) : MV P ty z z' Post σ (G (b.atR a (.code (.seq x y) :: k)) cs) pw :=
  mv_ctl rfl (fun w => by simp [G, stepG, stepG.exec, Frame.atR]) h
theorem mv_seq2 {x y : Code} (hb : fn b) (hk : b.kind ≠ .early) (h : wpM P ty z z' Post fn x (fun e a' σ' pw' => e = .normal ∧ MV P ty z z' Post σ' (G (b.atR a' (.code y :: k)) cs) pw') a σ pw) : MV P ty z z' Post σ (G (b.atR a (.code (.seq x y) :: k)) cs) pw :=
  mv_seq0 (h b (.code y :: k) cs hb hk fun e a' σ' pw' ⟨he, hm⟩ => by subst he; exact hm)
end
section
variable {Post : Value → World → Prop} {σ : Ph} {pw : World} {b : Frame} {k : List Item} {cs : List Frame}
set_option maxRecDepth 100000 in
set_option maxHeartbeats 4000000 in
theorem strHead {bo bp l N cap : Nat} {ao : Option Addr} (hb : b.fn = 29 ∧ b.roundOf = none) (hke : b.kind ≠ .early) (hG : ∀ b, σ.F b → Try.prog.globals.size ≤ b) (hgs : Try.prog.globals.size ≤ pw.heap.size) (hFl : ∀ b, σ.F b → b < pw.heap.size) (ht : σ.tag = .idle)
    (hbo : bo < pw.heap.size) (hown : pw.cell? ⟨bo, 0, none⟩ = some (.slice ao N cap))
    (hn : ∀ T : Array Value, T.size = 75 → T[0]? = some (.func (.yield l) #[] #[]) → T[1]? = some (.pointer (some ⟨bo, 0, none⟩)) → T[2]? = some (.pointer (some ⟨bp, 0, none⟩)) → T[4]? = some (.pointer (some ⟨pw.heap.size, 0, none⟩)) → T[5]? = some (.chan (some (pw.heap.size + 1))) →
      T[6]? = some (.slice none 0 0) → T[7]? = some (.slice none 0 0) → T[17]? = some (.slice ao N cap) → T[18]? = some (.int .i64 N) → T[19]? = some (.int .i64 0) →
      MV Try.prog wtG zI zS Post (begun1 (grouped σ pw.heap.size (wgBlock wtG 0 0)) pw.heap.size (pw.heap.size + 1)) (G (b.atR ⟨T, [dCloseA #[58] (pw.heap.size + 1), dcall 23 #[.pointer (some ⟨pw.heap.size, 0, none⟩)]]⟩ (.code blockT1 :: .code restT :: k)) cs) (headW Try.prog pw)) :
    MV Try.prog wtG zI zS Post σ (G (b.atR ⟨#[.func (.yield l) #[] #[], .pointer (some ⟨bo, 0, none⟩), .pointer (some ⟨bp, 0, none⟩), undef, undef, undef, undef, undef, undef, undef, undef, undef, undef, undef, undef, undef, undef, undef, undef, undef, undef, undef, undef, undef, undef, undef, undef, undef, undef, undef, undef, undef, undef, undef, undef, undef, undef, undef, undef, undef, undef, undef, undef, undef, undef, undef, undef, undef, undef, undef, undef, undef, undef, undef, undef, undef, undef, undef, undef, undef, undef, undef, undef, undef, undef, undef, undef, undef, undef, undef, undef, undef, undef, undef, undef], []⟩ (.code bodyT :: k)) cs) pw := by
  have hN := Lib.hid hn
  clear hn
  simp only [bodyT, Try.f29, Option.getD_some]
  refine mv_seq2 (fn := fun b => b.fn = 29 ∧ b.roundOf = none) hb hke (wpM_region ?_)
  simp only [List.size_toArray, List.length_cons, List.length_nil, Nat.zero_add, List.range, List.range.loop]
  refine opsM_group (ob := wgBlock wtG 0 0) (f := fun s => .pointer (some ⟨s, 0, none⟩)) ht rfl rfl rfl rfl (by simp) (fun w => ⟨by go_simp; rfl, by simp [go_sem]⟩) ?_
  walk_nrm
  have hG1 : ∀ b, (grouped σ pw.heap.size (wgBlock wtG 0 0)).F b → Try.prog.globals.size ≤ b := fun b hb => by
    rcases hb with hb | hb
    · exact hG b hb
    · omega
  replace hG := hG1
  clear hG1
  refine opsM_nil ⟨rfl, ?_⟩
  show MV _ _ _ _ _ _ _ _
  refine mv_seq2 (fn := fun b => b.fn = 29 ∧ b.roundOf = none) hb hke (wpM_region ?_)
  simp only [List.size_toArray, List.length_cons, List.length_nil, Nat.reduceAdd, Nat.zero_add, List.range, List.range.loop]
  refine opsM_push (ob := .chan 0 #[] false 0 0 false) (f := fun s => .chan (some s)) rfl rfl rfl (by simp) (fun w => ⟨?_, ?_⟩) ?_
  · go_simp
    rw [run_mkQ]
    rfl
  · simp [go_sem]
    exact ev_mkQ w
  walk_nrm
  refine opsM_k calmM hG rfl rfl rfl (fun t d K hK => ?_)
  go_simp
  refine hK _ _ (opsM_re ?_)
  clear hK
  walk_nrm
  refine opsM_nil ⟨rfl, ?_⟩
  show MV _ _ _ _ _ _ _ _
  refine mv_seq2 (fn := fun b => b.fn = 29 ∧ b.roundOf = none) hb hke (wpM_region ?_)
  simp only [List.size_toArray, List.length_cons, List.length_nil, Nat.zero_add, List.range, List.range.loop]
  refine opsM_defer (d := dcall 23 #[.pointer (some ⟨pw.heap.size, 0, none⟩)]) (fun b hb => hb.2) rfl rfl (fun w => ⟨by simp [execOp, resolve, Act.eval, Deferred.ofValue, dcall, go_sem], by simp [execOp, resolve, Act.eval, Deferred.ofValue, go_sem]⟩) ?_
  walk_nrm
  refine opsM_nil ⟨rfl, ?_⟩
  show MV _ _ _ _ _ _ _ _
  refine mv_seq2 (fn := fun b => b.fn = 29 ∧ b.roundOf = none) hb hke (wpM_region ?_)
  simp only [List.size_toArray, List.length_cons, List.length_nil, Nat.reduceAdd, Nat.zero_add, List.range, List.range.loop]
  refine opsM_k calmM hG rfl rfl rfl (fun t d K hK => ?_)
  go_simp
  refine hK _ _ (opsM_re ?_)
  clear hK
  walk_nrm
  simp only [killW_size, World.size_alloc]
  refine opsM_defer (d := dCloseA #[58] (pw.heap.size + 1)) (fun b hb => hb.2) rfl rfl (fun w => ⟨by simp [execOp, resolve, Act.eval, dCloseA, go_sem], by simp [execOp, resolve, Act.eval, go_sem]⟩) ?_
  walk_nrm
  refine opsM_nil ⟨rfl, ?_⟩
  show MV _ _ _ _ _ _ _ _
  refine mv_seq2 (fn := fun b => b.fn = 29 ∧ b.roundOf = none) hb hke (wpM_region ?_)
  simp only [List.size_toArray, List.length_cons, List.length_nil, Nat.zero_add, List.range, List.range.loop]
  refine opsM_k calmM hG rfl rfl rfl (fun t d K hK => ?_)
  go_simp
  refine hK _ _ (opsM_re ?_)
  clear hK
  walk_nrm
  refine opsM_nil ⟨rfl, ?_⟩
  show MV _ _ _ _ _ _ _ _
  refine mv_seq2 (fn := fun b => b.fn = 29 ∧ b.roundOf = none) hb hke (wpM_region ?_)
  simp only [List.size_toArray, List.length_cons, List.length_nil, Nat.zero_add, List.range, List.range.loop]
  refine opsM_k calmM hG rfl rfl rfl (fun t d K hK => ?_)
  go_simp
  refine hK _ _ (opsM_re ?_)
  clear hK
  walk_nrm
  refine opsM_nil ⟨rfl, ?_⟩
  show MV _ _ _ _ _ _ _ _
  refine mv_seq0 ?_
  refine mv_seq2 (fn := fun b => b.fn = 29 ∧ b.roundOf = none) hb hke (wpM_region ?_)
  simp only [List.size_toArray, List.length_cons, List.length_nil, Nat.reduceAdd, Nat.zero_add, List.range, List.range.loop]
  refine opsM_k calmM hG rfl rfl rfl (fun t d K hK => ?_)
  have hc1 : ((headW0 Try.prog pw).re t d).cell? ⟨bo, 0, none⟩ = some (.slice ao N cap) := (World.cell?_of_block (headW0_low hbo)).trans hown
  change uponV _ _ K ((execOp _ _).run _ ((headW0 Try.prog pw).re t d))
  go_simp
  refine hK _ _ (opsM_re ?_)
  clear hK hc1
  walk_nrm
  refine opsM_k calmM hG rfl rfl rfl (fun t d K hK => ?_)
  go_simp
  refine hK _ _ (opsM_re ?_)
  clear hK
  walk_nrm
  refine opsM_k calmM hG rfl rfl rfl (fun t d K hK => ?_)
  go_simp
  refine hK _ _ (opsM_re ?_)
  clear hK
  walk_nrm
  refine opsM_nil ⟨rfl, ?_⟩
  show MV _ _ _ _ _ _ _ _
  refine mv_begin (Wg := pw.heap.size) (q := pw.heap.size + 1) ht ?_ (.inr rfl) (fun h => ?_) headW0_q (hN.out _ rfl rfl rfl rfl rfl rfl rfl rfl rfl rfl rfl)
  · simp only [grouped, freeze, upd_same]
  · rcases h with h | h
    · have := hFl _ h
      omega
    · omega
end
end Go.Proofs.Ytmllcfkgkkbkpaa.Pr
