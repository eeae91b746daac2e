/-
  MuxOrders: the walk.
-/
import Derived.Test.YtmllcfkgkkbkpaaPk6
import Derived.Test.YtmllcfkgkkbkpaaHvOrdWalk
import Derived.Test.YtmllcfkgkkbkpaaHvArr111
namespace Go.Proofs.Ytmllcfkgkkbkpaa
open Go Go.Conc Go.RowKit Go.Conc.Lib Go.ConcR.Gen
open Go.ConcN (upd upd_ne upd_same WgLive)
open Go.ConcR (KK wgBlock WgAt stA smA rd wr mk DC0)
noncomputable def bodyOrX0 : Code := (Try.f6.body).getD .skip
theorem bodyOrX_eq : Try.f6.body = some bodyOr := rfl
theorem ntOrX : Try.f6.ntmps = 111 := by kernel_rfl
theorem nmOrX : (Try.f6.name == "runtime.NumGoroutine") = false := by kernel_rfl
theorem iniOrX : Try.prog.inits.idxOf? 6 = none := by kernel_rfl
theorem app111_2 (a0 a1 : Value) : (#[a0, a1] : Array Value) ++ Array.replicate (111 - (#[a0, a1] : Array Value).size) undef = #[a0, a1, undef, undef, undef, undef, undef, undef, undef, undef, undef, undef, undef, undef, undef, undef, undef, undef, undef, undef, undef, undef, undef, undef, undef, undef, undef, undef, undef, undef, undef, undef, undef, undef, undef, undef, undef, undef, undef, undef, undef, undef, undef, undef, undef, undef, undef, undef, undef, undef, undef, undef, undef, undef, undef, undef, undef, undef, undef, undef, undef, undef, undef, undef, undef, undef, undef, undef, undef, undef, undef, undef, undef, undef, undef, undef, undef, undef, undef, undef, undef, undef, undef, undef, undef, undef, undef, undef, undef, undef, undef, undef, undef, undef, undef, undef, undef, undef, undef, undef, undef, undef, undef, undef, undef, undef, undef, undef, undef, undef, undef] := by
  apply Array.ext'
  simp [List.replicate]
theorem calmOr1 : calmCode ptM SM cvM pieceOr = true := by kernel_rfl
theorem calmOr2 : calmCode ptM SM cvM tailOr = true := by kernel_rfl
theorem orSeq : ∃ r0 r1 r3 r5 r6 r18, bodyOr = .seq r0 (.seq r1 (.seq r3 (.seq r5 (.seq r6 (.seq pieceOr (.seq r18 tailOr)))))) := ⟨_, _, _, _, _, _, rfl⟩
section
variable {W : World}
set_option maxRecDepth 100000 in
set_option maxHeartbeats 8000000 in
theorem muxOrders_ends {p pp : Option Addr} {sizes picks : List Int} {n np c cp : Nat} (hsh : W.ShapedOpen Try.prog) (hs0 : InI W p sizes) (hp0 : InI W pp picks) (hn : sizes.length = n) (hnp : picks.length = np) (hsn : n ≤ 20000000000000) (hsp : np ≤ 20000000000000) :
    Ends Try.prog (PostT W) (crowd #[G (Frame.enter Try.prog 6 #[.slice p n c, .slice pp np cp] .normal) []] W none) #[] := by
  refine law_ends hsh fun σ pw hst hid => ?_
  have hA := hs0.start hst
  have hP := hp0.start hst
  have hG : ∀ b, σ.F b → Try.prog.globals.size ≤ b := fun b hb => (hid.fb b hb).1
  refine mv_bodyG (cc := bodyOr) Try.func6 bodyOrX_eq (fun Q hQ => ?_)
  rw [ntOrX, app111_2]
  obtain ⟨pc, hpc⟩ : ∃ x, x = pieceOr := ⟨_, rfl⟩
  obtain ⟨tl, htl⟩ : ∃ x, x = tailOr := ⟨_, rfl⟩
  have hbody : bodyOr = .seq (match bodyOr with | .seq x _ => x | _ => .skip) (.seq (match bodyOr with | .seq _ (.seq x _) => x | _ => .skip) (.seq (match bodyOr with | .seq _ (.seq _ (.seq x _)) => x | _ => .skip) (.seq (match bodyOr with | .seq _ (.seq _ (.seq _ (.seq x _))) => x | _ => .skip) (.seq (match bodyOr with | .seq _ (.seq _ (.seq _ (.seq _ (.seq x _)))) => x | _ => .skip) (.seq pieceOr (.seq (match bodyOr with | .seq _ (.seq _ (.seq _ (.seq _ (.seq _ (.seq _ (.seq x _)))))) => x | _ => .skip) tailOr)))))) := rfl
  rw [hbody, ← hpc, ← htl]
  simp only [bodyOr, Try.f6, Option.getD_some]
  refine wpM_seq (wpM_region ?_)
  simp only [List.size_toArray, List.length_cons, List.length_nil, Nat.zero_add, List.range, List.range.loop]
  refine opsM_k calmM hG rfl rfl rfl (fun t d K hK => ?_)
  go_simp
  refine hK _ _ (opsM_re ?_)
  clear hK
  walk_nrm
  refine opsM_nil ?_
  show wpM _ _ _ _ _ _ _ _ _ _ _
  refine wpM_seq (wpM_seq (wpM_region ?_))
  simp only [List.size_toArray, List.length_cons, List.length_nil, Nat.reduceAdd, Nat.zero_add, List.range, List.range.loop]
  refine opsM_enter (f := 9) rfl rfl (by intro c e; cases e) (fun w => run_enterOp rfl Try.func9 nmAl rfl w) (fun base cs hb => ?_)
  walk_nrm
  refine aliveM hid (by omega) fun σ1 w1 hS1 => hb _ _ _ ?_
  clear hb
  replace hG : ∀ b, σ1.F b → Try.prog.globals.size ≤ b := fun b hb => (hS1.idle.fb b hb).1
  walk_nrm
  refine opsM_k calmM hG rfl rfl rfl (fun t d K hK => ?_)
  go_simp
  refine hK _ _ (opsM_re ?_)
  clear hK
  walk_nrm
  refine opsM_nil ?_
  show wpM _ _ _ _ _ _ _ _ _ _ _
  refine wpM_cond (t := false) rfl ?_
  simp only [Bool.false_eq_true, ↓reduceIte]
  refine wpM_skip ?_
  show wpM _ _ _ _ _ _ _ _ _ _ _
  refine wpM_seq (wpM_seq (wpM_region ?_))
  simp only [List.size_toArray, List.length_cons, List.length_nil, Nat.reduceAdd, Nat.zero_add, List.range, List.range.loop]
  refine opsM_k calmM hG rfl rfl rfl (fun t d K hK => ?_)
  go_simp
  refine hK _ _ (opsM_re ?_)
  clear hK
  walk_nrm
  refine opsM_k calmM hG rfl rfl rfl (fun t d K hK => ?_)
  go_simp
  refine hK _ _ (opsM_re ?_)
  clear hK
  walk_nrm
  by_cases hbig : n > 50
  · have hdec : decide ((n : Int) > 50) = true := by simp; omega
    refine opsM_k calmM hG rfl rfl rfl (fun t d K hK => ?_)
    go_simp
    refine hK _ _ (opsM_re ?_)
    clear hK
    walk_nrm
    refine opsM_nil ?_
    show wpM _ _ _ _ _ _ _ _ _ _ _
    refine wpM_cond (t := true) (by first | rfl | (simp [Act.eval]; omega)) ?_
    simp only [↓reduceIte]
    refine wpM_seq (wpM_region ?_)
    simp only [List.size_toArray, List.length_cons, List.length_nil, Nat.zero_add, List.range, List.range.loop]
    refine opsM_k calmM hG rfl rfl rfl (fun t d K hK => ?_)
    go_simp
    refine hK _ _ (opsM_re ?_)
    clear hK
    walk_nrm
    refine opsM_nil ?_
    show wpM _ _ _ _ _ _ _ _ _ _ _
    exact wpM_ret (hQ _ _ _ fun k' => law_true hst hS1 rfl Try.func6 iniOrX (r := 4) rfl rfl)
  have hdec : decide ((n : Int) > 50) = false := by simp; omega
  refine opsM_k calmM hG rfl rfl rfl (fun t d K hK => ?_)
  go_simp
  refine hK _ _ (opsM_re ?_)
  clear hK
  walk_nrm
  refine opsM_nil ?_
  show wpM _ _ _ _ _ _ _ _ _ _ _
  refine wpM_cond (t := false) (by first | rfl | (simp [Act.eval]; omega)) ?_
  simp only [Bool.false_eq_true, ↓reduceIte]
  refine wpM_skip ?_
  show wpM _ _ _ _ _ _ _ _ _ _ _
  clear hdec
  refine wpM_seq (wpM_region ?_)
  simp only [List.size_toArray, List.length_cons, List.length_nil, Nat.reduceAdd, Nat.zero_add, List.range, List.range.loop]
  refine opsM_k calmM hG rfl rfl rfl (fun t d K hK => ?_)
  go_simp
  refine hK _ _ ?_
  clear hK
  walk_nrm
  rw [re_alloc]
  refine opsM_re ?_
  try simp only [re_size]
  refine opsM_k calmM hG rfl rfl rfl (fun t d K hK => ?_)
  go_simp
  refine hK _ _ (opsM_re ?_)
  clear hK
  walk_nrm
  refine opsM_nil ?_
  show wpM _ _ _ _ _ _ _ _ _ _ _
  have hown0 := OwnLs.made w1
  have hS2 := hS1.alloc (.cells #[] 23)
  obtain ⟨w2, hw2⟩ : ∃ x, x = w1.alloc (.cells #[] 23) := ⟨_, rfl⟩
  have hw2s : w1.heap.size ≤ w2.heap.size := by rw [hw2]; simp
  rw [← hw2] at hown0 hS2 ⊢
  clear hw2
  refine wpM_seq (wpM_region ?_)
  simp only [List.size_toArray, List.length_cons, List.length_nil, Nat.zero_add, List.range, List.range.loop]
  refine opsM_k calmM hG rfl rfl rfl (fun t d K hK => ?_)
  go_simp
  refine hK _ _ (opsM_re ?_)
  clear hK
  walk_nrm
  refine opsM_nil ?_
  show wpM _ _ _ _ _ _ _ _ _ _ _
  have hA2 := hA.since hS2
  have hlo : ∀ a, p = some a → 0 < n → a.block < w1.heap.size := fun a e h0 => by
    have := hA.low a e (by rw [iv_length]; omega)
    have := hS1.size
    omega
  subst hpc
  refine wpM_seq (wpM_piece calmM hG calmOr1 (noRet_true _) (R := fun t d a' w' => OrR p n c (.slice pp np cp) sizes w1.heap.size (w2.re t d) a' w') (fun t d => orders_piece (w2.re t d) (hA2.re t d) hn (by omega) hlo hown0 hw2s) (fun a' w3 hR => ?_))
  obtain ⟨t, d, t', d', T, v5, rfl, hT, t0, t1, t5, t6, hown, hbel⟩ := hR
  show wpM _ _ _ _ _ _ _ _ _ _ _
  have hS3 : Since σ pw σ1 w3 (1000000 - 3) := hS2.step hbel.size (fun x hx => hbel.block x (by have := hS1.size; omega)) hbel.os hbel.output
  obtain ⟨v0, v1, v2, v3, v4, v5, v6, v7, v8, v9, v10, v11, v12, v13, v14, v15, v16, v17, v18, v19, v20, v21, v22, v23, v24, v25, v26, v27, v28, v29, v30, v31, v32, v33, v34, v35, v36, v37, v38, v39, v40, v41, v42, v43, v44, v45, v46, v47, v48, v49, v50, v51, v52, v53, v54, v55, v56, v57, v58, v59, v60, v61, v62, v63, v64, v65, v66, v67, v68, v69, v70, v71, v72, v73, v74, v75, v76, v77, v78, v79, v80, v81, v82, v83, v84, v85, v86, v87, v88, v89, v90, v91, v92, v93, v94, v95, v96, v97, v98, v99, v100, v101, v102, v103, v104, v105, v106, v107, v108, v109, v110, rfl⟩ := array111 T hT
  simp only [List.getElem?_toArray, List.getElem?_cons_zero, List.getElem?_cons_succ, Option.some.injEq] at t0 t1 t5 t6
  subst t0 t1 t5 t6
  replace hown : OwnLs w3 w1.heap.size v5 (ordL sizes) := hown
  obtain ⟨q5, c5, rfl, _, _, hL5, _⟩ := hown.shape (n := n) (by rw [ordL_len, hn])
  have htot : total (ordL sizes) ≤ 15 * n := by
    have := total_ord_le sizes n (by omega)
    rwa [List.take_of_length_le (by rw [ordL_len]; omega)] at this
  clear hown hown0 hbel hA2 hlo
  refine wpM_seq (wpM_region ?_)
  simp only [List.size_toArray, List.length_cons, List.length_nil, Nat.reduceAdd, Nat.zero_add, List.range, List.range.loop]
  refine opsM_k calmM hG rfl rfl rfl (fun t d K hK => ?_)
  go_simp
  refine hK _ _ (opsM_re ?_)
  clear hK
  walk_nrm
  refine opsM_k calmM hG rfl rfl rfl (fun t d K hK => ?_)
  go_simp
  refine hK _ _ (opsM_re ?_)
  clear hK
  walk_nrm
  refine opsM_enter (f := 12) rfl rfl (by intro c e; cases e) (fun w => run_enterOp rfl Try.func12 nmCI rfl w) (fun base cs hb => ?_)
  walk_nrm
  refine copyS hS3.idle (hP.since hS3) hnp hsp fun u4 w4 hS4 hu4 => hb _ _ _ ?_
  clear hb
  obtain ⟨q4, c4, rfl, _, _, hin4, _⟩ := hu4.shape hnp
  have hS4' := hS3.trans hS4
  have hL4 := hL5.since hS4
  clear hu4
  walk_nrm
  refine opsM_enter (f := 14) rfl rfl (by intro c e; cases e) (fun w => run_enterOp rfl Try.func14 nmMe rfl w) (fun base cs hb => ?_)
  walk_nrm
  refine mergeS hS4'.idle (by omega) hL4 (by rw [ordL_len, hn]) (by omega) (by omega) hin4 hnp hsp fun σ7 u7 w7 hS7 hu7 => hb _ _ _ ?_
  clear hb
  have hS7' := hS4'.trans hS7
  obtain ⟨m, hm⟩ : ∃ m, m = total (ordL sizes) := ⟨_, rfl⟩
  obtain ⟨q7, c7, rfl, _, _, hin7, _⟩ := hu7.shape (n := m) (by rw [merge_len, hm])
  replace hG : ∀ b, σ7.F b → Try.prog.globals.size ≤ b := fun b hb => (hS7.idle.fb b hb).1
  clear hu7 hL4 hL5 hin4
  walk_nrm
  refine opsM_k calmM hG rfl rfl rfl (fun t d K hK => ?_)
  go_simp
  refine hK _ _ (opsM_re ?_)
  clear hK
  walk_nrm
  refine opsM_nil ?_
  show wpM _ _ _ _ _ _ _ _ _ _ _
  rw [← hm]
  subst htl
  refine wpM_calm calmM hG calmOr2 (R := fun t d r a' w' => r = true ∧ a'.tmps.getD 4 undef = .bool true ∧ a'.defers = [] ∧ Below w7.heap.size (w7.re t d) w') (fun t d => orders_tail (w7.re t d) (hin7.re t d) (by rw [merge_len, hm]) (by omega) (by omega) (fun t v hv => by rw [← hn]; exact ord_get hv)) (fun r a' w8 hR => ?_)
  obtain ⟨t, d, t', d', rfl, hv4, hdf, hb8⟩ := hR
  exact hQ _ _ _ fun k' => law_true hst (hS7'.belowR hb8) rfl Try.func6 iniOrX (r := 4) rfl hv4
end
end Go.Proofs.Ytmllcfkgkkbkpaa
