/-
  MuxMemory: the walk.
-/
import Derived.Test.YtmllcfkgkkbkpaaHvMemRound
import Derived.Test.YtmllcfkgkkbkpaaHvMemA
import Derived.Test.YtmllcfkgkkbkpaaHvMemB
import Derived.Test.YtmllcfkgkkbkpaaPk6
namespace Go.Proofs.Ytmllcfkgkkbkpaa
open Go Go.Conc Go.RowKit Go.Conc.Lib Go.ConcR.Gen
open Go.ConcN (upd upd_ne upd_same WgLive)
open Go.ConcR (KK wgBlock WgAt stA smA rd wr mk DC0)
noncomputable def bodyMmX0 : Code := (Try.f8.body).getD .skip
theorem bodyMmX_eq : Try.f8.body = some bodyMm := rfl
theorem ntMmX : Try.f8.ntmps = 107 := by kernel_rfl
theorem nmMmX : (Try.f8.name == "runtime.NumGoroutine") = false := by kernel_rfl
theorem iniMmX : Try.prog.inits.idxOf? 8 = none := by kernel_rfl
theorem app107_2 (a0 a1 : Value) : (#[a0, a1] : Array Value) ++ Array.replicate (107 - (#[a0, a1] : Array Value).size) undef = #[a0, a1, undef, undef, undef, undef, undef, undef, undef, undef, undef, undef, undef, undef, undef, undef, undef, undef, undef, undef, undef, undef, undef, undef, undef, undef, undef, undef, undef, undef, undef, undef, undef, undef, undef, undef, undef, undef, undef, undef, undef, undef, undef, undef, undef, undef, undef, undef, undef, undef, undef, undef, undef, undef, undef, undef, undef, undef, undef, undef, undef, undef, undef, undef, undef, undef, undef, undef, undef, undef, undef, undef, undef, undef, undef, undef, undef, undef, undef, undef, undef, undef, undef, undef, undef, undef, undef, undef, undef, undef, undef, undef, undef, undef, undef, undef, undef, undef, undef, undef, undef, undef, undef, undef, undef, undef, undef] := by
  apply Array.ext'
  simp [List.replicate]
theorem calmL1 : calmCode ptM SM cvM l1Mm = true := by kernel_rfl
theorem calmL2 : calmCode ptM SM cvM l2Mm = true := by kernel_rfl
theorem calmL3 : calmCode ptM SM cvM l3Mm = true := by kernel_rfl
theorem calmR29 : calmCode ptM SM cvM r29Mm = true := by kernel_rfl
theorem calmR34 : calmCode ptM SM cvM r34Mm = true := by kernel_rfl
theorem lens_boundM {L : List (List Int)} (h : total L ≤ 1000000000000) : ∀ l ∈ L, l.length ≤ 1000000000000 := fun l hl => by
  obtain ⟨i, hi, rfl⟩ := List.mem_iff_getElem.1 hl
  have := total_get (List.getElem?_eq_getElem hi)
  omega
theorem mm_get {L : List (List Int)} {picks : List Int} : ∀ (k i : Nat) (v : Value), (things (L.map iv) picks 0)[k]? = some (i, v) → ∃ y, v = .int .i64 y ∧ (mergeT L picks)[k]? = some y := by
  intro k i v h
  rw [things_iv, List.getElem?_map] at h
  obtain ⟨⟨i', y⟩, h1, h2⟩ := Option.map_eq_some_iff.1 h
  simp only [Prod.mk.injEq] at h2
  obtain ⟨rfl, rfl⟩ := h2
  exact ⟨y, rfl, by unfold mergeT; rw [List.getElem?_map, h1]; rfl⟩
theorem InLs.keepLow {w w' : World} {p : Option Addr} {L : List (List Int)} (h : InLs w p L) (hk : ∀ x, x < w.heap.size → w'.heap[x]? = w.heap[x]?) : InLs w' p L := by
  obtain ⟨hs0, h1, h2, h3⟩ := h
  refine ⟨hs0, InV.keep h1 fun a e h0 => hk _ (h1.low a e h0), h2, fun i l hi => ?_⟩
  obtain ⟨q, c, h4, h5⟩ := h3 i l hi
  exact ⟨q, c, h4, InV.keep h5 fun a e h0 => hk _ (InV.low h5 a e h0)⟩
theorem OwnI.touch {w w' : World} {lo hi base : Nat} {v : Value} {l : List Int} (h : OwnI w base v l) (ht : Touch lo hi w w') (hv : ∀ g, v.ownBlock = some g → g < lo ∨ hi ≤ g) : OwnI w' base v l := owns_keep h fun g hg e => ht.out g hg (hv g e)
theorem OwnK.re {w : World} {base top k : Nat} {v : Value} {L : List (List Int)} (h : OwnK w base top v L k) (t : Nat → Question → Nat) (d : Nat) : OwnK (w.re t d) base top v L k := h
section
variable {Post : Value → World → Prop} {σ : Ph} {pw : World} {c : Frame} {cs : List Frame}
theorem copyLDs {room n cc : Nat} {p : Option Addr} {L : List (List Int)} (hid : Idle σ pw room) (h : InLs pw p L) (hn : L.length = n) (hs : n < 1000000) (hl : ∀ l ∈ L, l.length ≤ 1000000000000)
    (hk : ∀ v pw', Since σ pw σ pw' room → OwnLd pw' pw.heap.size pw'.heap.size v L → MV Try.prog wtG zI zS Post σ (G (c.finish v) cs) pw') :
    MV Try.prog wtG zI zS Post σ (G (Frame.enter Try.prog 11 #[.slice p n cc] .normal) (c :: cs)) pw := by
  refine mv_calls calmM (fun b hb => (hid.fb b hb).1) calmCL (R := fun t d v w' => OwnLd w' pw.heap.size w'.heap.size v L ∧ Below pw.heap.size (pw.re t d) w') (fun t d => (copyLists_apart (pw.re t d) (h.re t d) hn hs hl).mono fun e w' h => ?_) (fun v w2 hv => ?_)
  · obtain ⟨v, h1, h2, h3⟩ := h
    exact ⟨v, h1, h2, h3⟩
  · obtain ⟨t, d, t', d', ho, hb⟩ := hv
    exact hk v w2 ((Since.refl hid).belowR hb) ho
end
section
variable {W : World}
set_option maxRecDepth 100000 in
set_option maxHeartbeats 8000000 in
theorem muxMemory_ends {p pp : Option Addr} {L : List (List Int)} {picks : List Int} {n np c cp : Nat} (hsh : W.ShapedOpen Try.prog) (hA0 : InLs W p L) (hp0 : InI W pp picks) (hn : L.length = n) (hnp : picks.length = np) (hsl : total L + L.length ≤ 1048576) (hsp : picks.length ≤ 1048576) :
    Ends Try.prog (PostT W) (crowd #[G (Frame.enter Try.prog 8 #[.slice p n c, .slice pp np cp] .normal) []] W none) #[] := by
  refine law_ends hsh fun σ pw hst hid => ?_
  have hA := hA0.start hst
  have hP := hp0.start hst
  have hlb := lens_boundM (L := L) (by omega)
  have hG : ∀ b, σ.F b → Try.prog.globals.size ≤ b := fun b hb => (hid.fb b hb).1
  refine mv_bodyG (cc := bodyMm) Try.func8 bodyMmX_eq (fun Q hQ => ?_)
  rw [ntMmX, app107_2]
  obtain ⟨l1, hl1⟩ : ∃ x, x = l1Mm := ⟨_, rfl⟩
  obtain ⟨l2, hl2⟩ : ∃ x, x = l2Mm := ⟨_, rfl⟩
  obtain ⟨l3, hl3⟩ : ∃ x, x = l3Mm := ⟨_, rfl⟩
  obtain ⟨rf, hrf⟩ : ∃ x, x = rfMm := ⟨_, rfl⟩
  obtain ⟨r34, hr34⟩ : ∃ x, x = r34Mm := ⟨_, rfl⟩
  have hbody : bodyMm = .seq (match bodyMm with | .seq x _ => x | _ => .skip) (.seq (match bodyMm with | .seq _ (.seq x _) => x | _ => .skip) (.seq (match bodyMm with | .seq _ (.seq _ (.seq x _)) => x | _ => .skip) (.seq (match bodyMm with | .seq _ (.seq _ (.seq _ (.seq x _))) => x | _ => .skip) (.seq (match bodyMm with | .seq _ (.seq _ (.seq _ (.seq _ (.seq x _)))) => x | _ => .skip) (.seq (match bodyMm with | .seq _ (.seq _ (.seq _ (.seq _ (.seq _ (.seq x _))))) => x | _ => .skip) (.seq (match bodyMm with | .seq _ (.seq _ (.seq _ (.seq _ (.seq _ (.seq _ (.seq x _)))))) => x | _ => .skip) (.seq l1Mm (.seq l2Mm (.seq l3Mm (.seq (match bodyMm with | .seq _ (.seq _ (.seq _ (.seq _ (.seq _ (.seq _ (.seq _ (.seq _ (.seq _ (.seq _ (.seq x _)))))))))) => x | _ => .skip) (.seq (match bodyMm with | .seq _ (.seq _ (.seq _ (.seq _ (.seq _ (.seq _ (.seq _ (.seq _ (.seq _ (.seq _ (.seq _ (.seq x _))))))))))) => x | _ => .skip) (.seq rfMm (.seq r34Mm ((match bodyMm with | .seq _ (.seq _ (.seq _ (.seq _ (.seq _ (.seq _ (.seq _ (.seq _ (.seq _ (.seq _ (.seq _ (.seq _ (.seq _ (.seq _ (x)))))))))))))) => x | _ => .skip))))))))))))))) := rfl
  rw [hbody, ← hl1, ← hl2, ← hl3, ← hrf, ← hr34]
  clear hbody
  simp only [bodyMm, Try.f8, Option.getD_some]
  refine wpM_seq (wpM_region ?_)
  simp only [List.size_toArray, List.length_cons, List.length_nil, Nat.zero_add, List.range, List.range.loop]
  refine opsM_k calmM hG rfl rfl rfl (fun t d K hK => ?_)
  go_simp
  refine hK _ _ ?_
  clear hK
  walk_nrm
  rw [re_alloc]
  refine opsM_re ?_
  try simp only [re_size]
  refine opsM_nil ?_
  show wpM _ _ _ _ _ _ _ _ _ _ _
  obtain ⟨w1, hw1⟩ : ∃ w1, w1 = pw.alloc (.cells #[.bool false] 4) := ⟨_, rfl⟩
  have hS1 : Since σ pw σ w1 1000000 := by rw [hw1]; exact (Since.refl hid).alloc _
  obtain ⟨b4, hb4⟩ : ∃ b, b = pw.heap.size := ⟨_, rfl⟩
  have hs1 : w1.heap.size = pw.heap.size + 1 := by rw [hw1]; simp only [World.size_alloc]
  have h4 : w1.heap[b4]? = some (.cells #[.bool false] 4) := by
    rw [hw1, hb4]
    exact alloc_self
  rw [← hw1, ← hb4]
  have hb4' : pw.heap.size ≤ b4 ∧ b4 ≤ pw.heap.size := by omega
  have hs1' : pw.heap.size + 1 ≤ w1.heap.size ∧ w1.heap.size ≤ pw.heap.size + 1 := by omega
  clear hw1 hb4 hs1
  refine wpM_seq (wpM_seq (wpM_region ?_))
  simp only [List.size_toArray, List.length_cons, List.length_nil, Nat.reduceAdd, Nat.zero_add, List.range, List.range.loop]
  refine opsM_enter (f := 9) rfl rfl (by intro c e; cases e) (fun w => run_enterOp rfl Try.func9 nmAl rfl w) (fun base cs hb => ?_)
  walk_nrm
  refine aliveM hS1.idle (by omega) fun σ1 w2 hS2 => hb _ _ _ ?_
  clear hb
  replace hG : ∀ b, σ1.F b → Try.prog.globals.size ≤ b := fun b hb => (hS2.idle.fb b hb).1
  walk_nrm
  refine opsM_k calmM hG rfl rfl rfl (fun t d K hK => ?_)
  go_simp
  refine hK _ _ (opsM_re ?_)
  clear hK
  walk_nrm
  refine opsM_nil ?_
  show wpM _ _ _ _ _ _ _ _ _ _ _
  refine wpM_cond (t := false) rfl ?_
  simp only [Bool.false_eq_true, ↓reduceIte]
  refine wpM_skip ?_
  show wpM _ _ _ _ _ _ _ _ _ _ _
  refine wpM_seq (wpM_seq (wpM_region ?_))
  simp only [List.size_toArray, List.length_cons, List.length_nil, Nat.reduceAdd, Nat.zero_add, List.range, List.range.loop]
  refine opsM_k calmM hG rfl rfl rfl (fun t d K hK => ?_)
  go_simp
  refine hK _ _ (opsM_re ?_)
  clear hK
  walk_nrm
  refine opsM_enter (f := 10) rfl rfl (by intro c e; cases e) (fun w => run_enterOp rfl Try.func10 nmMA rfl w) (fun base cs hb => ?_)
  walk_nrm
  refine manyS hS2.idle (hA.since (hS1.trans hS2)) hn (by omega) (by omega) fun w3 hS3 => hb _ _ _ ?_
  clear hb
  have hT3 := hS2.trans hS3
  have hS3' := hS1.trans hT3
  have hF1 : ∀ x, pw.heap.size ≤ x → x < w1.heap.size → ¬ σ1.F x := fun x h1 h2 h => by
    rcases hS2.later.f' x h with h | h
    · have := (hid.fb x h).2
      omega
    · omega
  by_cases hbig : 100 < n ∨ 2000 < total L
  · rw [decide_eq_true hbig]
    walk_nrm
    refine opsM_nil ?_
    show wpM _ _ _ _ _ _ _ _ _ _ _
    refine wpM_cond (t := true) (by first | rfl | (simp [Act.eval]; omega)) ?_
    simp only [↓reduceIte]
    refine wpM_seq (wpM_region ?_)
    have h43 : w3.heap[b4]? = some (.cells #[.bool false] 4) := (hT3.low b4 (by omega)).trans h4
    have hbx := cell_row1 h43
    simp only [List.size_toArray, List.length_cons, List.length_nil, Nat.zero_add, List.range, List.range.loop]
    refine opsM_k calmM hG rfl rfl rfl (fun t d K hK => ?_)
    have hx1 : (w3.re t d).cell? ⟨b4, 0, none⟩ = some (.bool false) := hbx.1
    have hx2 : (w3.re t d).frozen? ⟨b4, 0, none⟩ = false := hbx.2
    go_simp
    rw [re_setCell]
    refine hK _ _ (opsM_re ?_)
    clear hK hx1 hx2
    walk_nrm
    refine opsM_nil ?_
    show wpM _ _ _ _ _ _ _ _ _ _ _
    refine wpM_ret (hQ _ _ _ fun k' => law_trueC (ds := []) (r := 4) (b := b4) hst (hS3'.step (w' := w3.setCell ⟨b4, 0, none⟩ (.bool true)) (by simp) (fun x hx => heap_setCell_other w3 ⟨b4, 0, none⟩ x _ (show x ≠ b4 by omega)) rfl rfl) List.nodup_nil (by simp) Try.func8 iniMmX rfl rfl ?_ (hF1 b4 (by omega) (by omega)) (by simp))
    rw [heap_setCell_same w3 b4 0 _ _ _ h43]
    rfl
  rw [decide_eq_false hbig]
  walk_nrm
  refine opsM_nil ?_
  show wpM _ _ _ _ _ _ _ _ _ _ _
  refine wpM_cond (t := false) (by first | rfl | (simp [Act.eval]; omega)) ?_
  simp only [Bool.false_eq_true, ↓reduceIte]
  refine wpM_skip ?_
  show wpM _ _ _ _ _ _ _ _ _ _ _
  refine wpM_seq (wpM_region ?_)
  simp only [List.size_toArray, List.length_cons, List.length_nil, Nat.reduceAdd, Nat.zero_add, List.range, List.range.loop]
  refine opsM_k calmM hG rfl rfl rfl (fun t d K hK => ?_)
  go_simp
  refine hK _ _ (opsM_re ?_)
  clear hK
  walk_nrm
  refine opsM_enter (f := 11) rfl rfl (by intro c e; cases e) (fun w => run_enterOp rfl Try.func11 nmCL rfl w) (fun base cs hb => ?_)
  walk_nrm
  refine copyLDs hS3'.idle (hA.since hS3') hn (by omega) hlb fun u3 w3a hS3a hu3 => hb _ _ _ ?_
  clear hb
  obtain ⟨q3, c3, rfl, _, _, hL3, _⟩ := hu3.ls.shape hn
  have hT3a := hT3.trans hS3a
  have hS3a' := hS1.trans hT3a
  have hK3 : OwnK w3a w3.heap.size w3a.heap.size (.slice q3 n c3) L 0 := hu3.toK fun g e => by
    obtain ⟨hs0, h1, _⟩ := hu3
    exact (World.ownsRow.lt h1 g e).2
  clear hu3
  walk_nrm
  refine opsM_k calmM hG rfl rfl rfl (fun t d K hK => ?_)
  go_simp
  refine hK _ _ (opsM_re ?_)
  clear hK
  walk_nrm
  refine opsM_nil ?_
  show wpM _ _ _ _ _ _ _ _ _ _ _
  refine wpM_seq (wpM_region ?_)
  simp only [List.size_toArray, List.length_cons, List.length_nil, Nat.reduceAdd, Nat.zero_add, List.range, List.range.loop]
  refine opsM_k calmM hG rfl rfl rfl (fun t d K hK => ?_)
  go_simp
  refine hK _ _ (opsM_re ?_)
  clear hK
  walk_nrm
  refine opsM_enter (f := 12) rfl rfl (by intro c e; cases e) (fun w => run_enterOp rfl Try.func12 nmCI rfl w) (fun base cs hb => ?_)
  walk_nrm
  refine copyS hS3a'.idle (hP.since hS3a') hnp (by omega) fun u4 w4 hS4 hu4 => hb _ _ _ ?_
  clear hb
  obtain ⟨q4, c4, rfl, _, _, hin4, hq4⟩ := hu4.shape hnp
  have hb44 : ∀ g, (Value.slice q4 np c4).ownBlock = some g → g < w4.heap.size := fun g e => (World.ownsRow.lt hu4 g e).2
  have hT4 := hT3a.trans hS4
  have hS4' := hS1.trans hT4
  have hL4 := hL3.since hS4
  have hK4 : OwnK w4 w3.heap.size w3a.heap.size (.slice q3 n c3) L 0 := hK3.keep fun x _ hx => hS4.low x hx
  clear hL3 hK3
  walk_nrm
  refine opsM_k calmM hG rfl rfl rfl (fun t d K hK => ?_)
  go_simp
  refine hK _ _ (opsM_re ?_)
  clear hK
  walk_nrm
  refine opsM_nil ?_
  show wpM _ _ _ _ _ _ _ _ _ _ _
  refine wpM_seq (wpM_region ?_)
  simp only [List.size_toArray, List.length_cons, List.length_nil, Nat.reduceAdd, Nat.zero_add, List.range, List.range.loop]
  refine opsM_k calmM hG rfl rfl rfl (fun t d K hK => ?_)
  go_simp
  refine hK _ _ (opsM_re ?_)
  clear hK
  walk_nrm
  refine opsM_k calmM hG rfl rfl rfl (fun t d K hK => ?_)
  go_simp
  refine hK _ _ (opsM_re ?_)
  clear hK
  walk_nrm
  refine opsM_enter (f := 14) rfl rfl (by intro c e; cases e) (fun w => run_enterOp rfl Try.func14 nmMe rfl w) (fun base cs hb => ?_)
  walk_nrm
  refine mergeS hS4'.idle (by omega) hL4 hn (by omega) (by omega) hin4 hnp (by omega) fun σ5 u5 w5 hS5 hu5 => hb _ _ _ ?_
  clear hb
  obtain ⟨q5, c5, rfl, _, _, _, hq5⟩ := hu5.shape (n := total L) (merge_lenI L picks)
  have hT5 := hT4.trans hS5
  have hS5' := hS1.trans hT5
  have hL5 := hL4.since hS5
  have hin5 := hin4.since hS5
  have hu45 := hu4.since hS5
  have hK5 : OwnK w5 w3.heap.size w3a.heap.size (.slice q3 n c3) L 0 := hK4.keep fun x _ hx => hS5.low x (by have := hS4.size; omega)
  replace hG : ∀ b, σ5.F b → Try.prog.globals.size ≤ b := fun b hb => (hS5.idle.fb b hb).1
  clear hL4 hin4 hu4 hK4
  walk_nrm
  refine opsM_k calmM hG rfl rfl rfl (fun t d K hK => ?_)
  go_simp
  refine hK _ _ (opsM_re ?_)
  clear hK
  walk_nrm
  refine opsM_nil ?_
  show wpM _ _ _ _ _ _ _ _ _ _ _
  refine wpM_seq (wpM_region ?_)
  simp only [List.size_toArray, List.length_cons, List.length_nil, Nat.reduceAdd, Nat.zero_add, List.range, List.range.loop]
  refine opsM_k calmM hG rfl rfl rfl (fun t d K hK => ?_)
  go_simp
  refine hK _ _ (opsM_re ?_)
  clear hK
  walk_nrm
  refine opsM_k calmM hG rfl rfl rfl (fun t d K hK => ?_)
  go_simp
  refine hK _ _ (opsM_re ?_)
  clear hK
  walk_nrm
  refine opsM_enter (f := 19) rfl rfl (by intro c e; cases e) (fun w => run_enterOp rfl Try.func19 nmStreamI rfl w) (fun base cs hb => ?_)
  walk_nrm
  have hlens : ∀ l ∈ L, l.length < 1000000000000 := fun l hl => by
    obtain ⟨i, hi, rfl⟩ := List.mem_iff_getElem.1 hl
    have := total_get (List.getElem?_eq_getElem hi)
    omega
  refine mv_calls calmM hG calmStreamI (R := fun t d v w' => ∃ base1 bo bp g pa pc', v = .func (.func 22) #[] #[.pointer (some ⟨bo, 0, none⟩), .pointer (some ⟨bp, 0, none⟩)] ∧ StreamAt w' w5.heap.size base1 bo bp g pa pc' L picks ∧ Below w5.heap.size (w5.re t d) w') (fun t d => (streamI_any (w5.re t d) (hL5.re t d) hn (by omega) hlens (hin5.re t d) hnp (by omega)).mono fun e w' h => ?_) (fun v w6 hv => ?_)
  · obtain ⟨base1, bo, bp, g, pa, pc', h1, h2, h3⟩ := h
    exact ⟨_, h1, base1, bo, bp, g, pa, pc', rfl, h2, h3⟩
  obtain ⟨t, d, t', d', base1, bo, bp, g, pa, pc', rfl, hSt, hb2⟩ := hv
  obtain ⟨hsz6, hlow6, hos6, hout6⟩ := below_re hb2
  replace hSt : StreamAt w6 w5.heap.size base1 bo bp g pa pc' L picks := hSt.keep (fun _ _ _ => rfl) (Nat.le_refl _)
  refine hb _ _ _ ?_
  clear hb hb2 hL5 hin5
  walk_nrm
  refine opsM_k calmM hG rfl rfl rfl (fun t d K hK => ?_)
  go_simp
  refine hK _ _ (opsM_re ?_)
  clear hK
  walk_nrm
  refine opsM_nil ?_
  show wpM _ _ _ _ _ _ _ _ _ _ _
  have hs23 := hS3'.size
  have hs13 := hT3.size
  have hs3a := hS3a.size
  have hs4 := hS4.size
  have hs5 := hS5.size
  have hlo := hSt.lo
  have hhi := hSt.hi
  have hTq5 : Touch w6.heap.size w6.heap.size w5 w6 := ⟨hsz6, fun x hx _ => hlow6 x hx, hos6, hout6⟩
  have hS6 : Since σ pw σ5 w6 (1000000 - 3 - n) := hS5'.step hsz6 (fun x hx => hlow6 x (by omega)) hos6 hout6
  have hu5' : OwnI w6 w4.heap.size (.slice q5 (total L) c5) (mergeT L picks) := owns_keep hu5 fun g hg _ => hlow6 g hg
  have hu46 : OwnI w6 w3a.heap.size (.slice q4 np c4) picks := owns_keep hu45 fun g hg _ => hlow6 g hg
  have hK6 : OwnK w6 w3.heap.size w3a.heap.size (.slice q3 n c3) L 0 := hK5.keep fun x _ hx => hlow6 x (by omega)
  have h46 : w6.heap[b4]? = some (.cells #[.bool false] 4) := by rw [hlow6 b4 (by omega), hT5.low b4 (by omega), h4]
  clear hu5 hu45 hK5 hTq5 hlow6 hos6 hout6
  subst hl1 hl2 hl3
  refine wpM_seq (wpM_piece calmM hG calmL1 (noRet_true _) (R := fun t d a' w' => Tq a'.tmps (.slice p n c) (.slice pp np cp) (.pointer (some ⟨b4, 0, none⟩)) (.slice q3 n c3) (.slice q4 np c4) (.slice q5 (total L) c5) (.func (.func 22) #[] #[.pointer (some ⟨bo, 0, none⟩), .pointer (some ⟨bp, 0, none⟩)]) ∧ a'.defers = [] ∧ Touch w4.heap.size w5.heap.size (w6.re t d) w') (fun t d => l1_lone (w6.re t d) (Tq.mk rfl rfl rfl rfl rfl rfl rfl rfl) (hu5'.re t d) (merge_lenI L picks) (by omega) (fun a e => (hq5 a e).2.1)) (fun a' w7 hR => ?_))
  obtain ⟨t, d, t', d', hT7, hd, hbel⟩ := hR
  obtain ⟨T7, D⟩ := a'
  simp only at hd hT7
  subst hd
  have ht7 : Touch w4.heap.size w5.heap.size w6 w7 := ⟨hbel.size, hbel.out, hbel.os, hbel.output⟩
  clear hbel
  show wpM _ _ _ _ _ _ _ _ ⟨T7, []⟩ _ _
  have hs7 := ht7.size
  have hS7 : Since σ pw σ5 w7 (1000000 - 3 - n) := hS6.step ht7.size (fun x hx => ht7.out x (by omega) (.inl (by omega))) ht7.os ht7.output
  have hSt7 := hSt.keep (fun x _ h2 => ht7.out x h2 (.inr (by omega))) ht7.size
  have hu47 := hu46.touch ht7 fun g e => .inl (hb44 g e)
  have hK7 : OwnK w7 w3.heap.size w3a.heap.size (.slice q3 n c3) L 0 := hK6.keep fun x _ hx => ht7.out x (by omega) (.inl (by omega))
  have h47 : w7.heap[b4]? = some (.cells #[.bool false] 4) := (ht7.out b4 (by omega) (.inl (by omega))).trans h46
  clear hSt hu46 hK6 h46 hu5'
  refine wpM_seq (wpM_piece calmM hG calmL2 (noRet_true _) (R := fun t d a' w' => Tq a'.tmps (.slice p n c) (.slice pp np cp) (.pointer (some ⟨b4, 0, none⟩)) (.slice q3 n c3) (.slice q4 np c4) (.slice q5 (total L) c5) (.func (.func 22) #[] #[.pointer (some ⟨bo, 0, none⟩), .pointer (some ⟨bp, 0, none⟩)]) ∧ a'.defers = [] ∧ Touch w3.heap.size w3a.heap.size (w7.re t d) w') (fun t d => l2_lone (w7.re t d) hT7 (fun w' h => hA.keepLow fun x hx => (h x (by omega)).trans (hS7.low x hx)) (hK7.re t d) hn (by omega) hlb (show w3.heap.size ≤ w7.heap.size by omega) (show w3a.heap.size ≤ w7.heap.size by omega)) (fun a' w8 hR => ?_))
  obtain ⟨t, d, t', d', hT8, hd, hbel⟩ := hR
  obtain ⟨T8, D⟩ := a'
  simp only at hd hT8
  subst hd
  have ht8 : Touch w3.heap.size w3a.heap.size w7 w8 := ⟨hbel.size, hbel.out, hbel.os, hbel.output⟩
  clear hbel
  show wpM _ _ _ _ _ _ _ _ ⟨T8, []⟩ _ _
  have hs8 := ht8.size
  have hS8 : Since σ pw σ5 w8 (1000000 - 3 - n) := hS7.step ht8.size (fun x hx => ht8.out x (by omega) (.inl (by omega))) ht8.os ht8.output
  have hSt8 := hSt7.keep (fun x _ h2 => ht8.out x h2 (.inr (by omega))) ht8.size
  have hu48 := hu47.touch ht8 fun g e => .inr (World.ownsRow.lt hu47 g e).1
  have h48 : w8.heap[b4]? = some (.cells #[.bool false] 4) := (ht8.out b4 (by omega) (.inl (by omega))).trans h47
  clear hSt7 hu47 hK7 h47
  refine wpM_seq (wpM_piece calmM hG calmL3 (noRet_true _) (R := fun t d a' w' => Tq a'.tmps (.slice p n c) (.slice pp np cp) (.pointer (some ⟨b4, 0, none⟩)) (.slice q3 n c3) (.slice q4 np c4) (.slice q5 (total L) c5) (.func (.func 22) #[] #[.pointer (some ⟨bo, 0, none⟩), .pointer (some ⟨bp, 0, none⟩)]) ∧ a'.defers = [] ∧ Touch w3a.heap.size w4.heap.size (w8.re t d) w') (fun t d => l3_lone (w8.re t d) hT8 (hu48.re t d) hnp (by omega) (fun a e => (hq4 a e).2.1)) (fun a' w9 hR => ?_))
  obtain ⟨t, d, t', d', hT9, hd, hbel⟩ := hR
  obtain ⟨T9, D⟩ := a'
  simp only at hd hT9
  subst hd
  have ht9 : Touch w3a.heap.size w4.heap.size w8 w9 := ⟨hbel.size, hbel.out, hbel.os, hbel.output⟩
  clear hbel
  show wpM _ _ _ _ _ _ _ _ ⟨T9, []⟩ _ _
  have hs9 := ht9.size
  have hS9 : Since σ pw σ5 w9 (1000000 - 3 - n) := hS8.step ht9.size (fun x hx => ht9.out x (by omega) (.inl (by omega))) ht9.os ht9.output
  have hSt9 := hSt8.keep (fun x _ h2 => ht9.out x h2 (.inr (by omega))) ht9.size
  have h49 : w9.heap[b4]? = some (.cells #[.bool false] 4) := (ht9.out b4 (by omega) (.inl (by omega))).trans h48
  clear hSt8 hu48 h48 hT7 hT8
  refine wpM_frozen hSt9 hS9.idle (fun x hx => (hS5.idle.fb x hx).2) (by have := hS4'.idle.gs; omega) hlens (by omega) fun σ6 w10 hid10 hroom10 hlat10 hO10 hsz10 hlow10 hos10 hout10 => ?_
  have hS10 : Since σ pw σ6 w10 (1000000 - 3 - n) := ⟨hid10, hS9.later.trans (hlat10 pw (by omega)) (Nat.le_refl _), by omega, fun x hx => by rw [hlow10 x (by omega), hS9.low x hx], by rw [hos10, hS9.os], by rw [hout10, hS9.output]⟩
  have h4w : w10.heap[b4]? = some (.cells #[.bool false] 4) := by rw [hlow10 b4 (by omega), h49]
  have hF10 : ∀ x, pw.heap.size ≤ x → x < w1.heap.size → ¬ σ6.F x := fun x h1 h2 h => by
    rcases (hlat10 w5 (by omega)).f' x h with h | h
    · rcases hS5.later.f' x h with h | h
      · exact hF1 x h1 h2 h
      · omega
    · omega
  have cellk : ∀ {x v}, w9.cell? ⟨x, 0, none⟩ = some v → x < base1 → w10.cell? ⟨x, 0, none⟩ = some v := fun {x v} h hx => (World.cell?_of_block (hlow10 _ hx)).trans h
  have hbo10 := cellk hSt9.own (by omega)
  have hbp10 := cellk hSt9.bpc (by omega)
  obtain ⟨hpk10, hpa10⟩ : InI w10 pa picks ∧ ∀ a, pa = some a → a.block < w10.heap.size := by
    obtain ⟨_, _, e, _, _, h4, h5⟩ := OwnI.shape hSt9.picks rfl
    simp only [Value.slice.injEq, true_and] at e
    obtain ⟨rfl, rfl⟩ := e
    exact ⟨h4.keep fun ad h1 _ => hlow10 _ (hSt9.pa ad h1), fun a ha => by have := (h5 a ha).2.1; omega⟩
  have hst1 : b4 < w5.heap.size ∧ bo < w10.heap.size ∧ bp < w10.heap.size ∧ g < w10.heap.size ∧ w5.heap.size ≤ w10.heap.size := by omega
  clear hSt9 cellk hlow10 hos10 hout10 hlat10 hsz10 hlo hhi h4 h49 hS4 hS3a hS3
  replace hG : ∀ b, σ6.F b → Try.prog.globals.size ≤ b := fun b hb => (hid10.fb b hb).1
  obtain ⟨v2, v3, v9, v10, v11, v12, v13, v14, v15, v16, v17, v18, v19, v20, v21, v22, v23, v24, v25, v26, v27, v28, v29, v30, v31, v32, v33, v34, v35, v36, v37, v38, v39, v40, v41, v42, v43, v44, v45, v46, v47, v48, v49, v50, v51, v52, v53, v54, v55, v56, v57, v58, v59, v60, v61, v62, v63, v64, v65, v66, v67, v68, v69, v70, v71, v72, v73, v74, v75, v76, v77, v78, v79, v80, v81, v82, v83, v84, v85, v86, v87, v88, v89, v90, v91, v92, v93, v94, v95, v96, v97, v98, v99, v100, v101, v102, v103, v104, v105, v106, rfl⟩ := hT9.open
  clear hT9
  refine wpM_seq (wpM_region ?_)
  simp only [List.size_toArray, List.length_cons, List.length_nil, Nat.reduceAdd, Nat.zero_add, List.range, List.range.loop]
  refine opsM_k calmM hG rfl rfl rfl (fun t d K hK => ?_)
  go_simp
  refine hK _ _ (opsM_re ?_)
  clear hK
  walk_nrm
  refine opsM_k calmM hG rfl rfl rfl (fun t d K hK => ?_)
  go_simp
  refine hK _ _ (opsM_re ?_)
  clear hK
  walk_nrm
  refine opsM_enter (f := 15) rfl rfl (by intro c e; cases e) (fun w => run_enterOp rfl Try.func15 nmRM rfl w) (fun base cs hb => ?_)
  walk_nrm
  refine refMergeS hid10 (hA.since hS10) hn (by omega) (by omega) (hP.since hS10) hnp fun u11 w11 hS11 hu11 => hb _ _ _ ?_
  clear hb
  obtain ⟨q11, c11, rfl, _, _, hin11, hq11⟩ := hu11.shape (n := total L) (merge_lenI L picks)
  clear hu11
  walk_nrm
  refine opsM_k calmM hG rfl rfl rfl (fun t d K hK => ?_)
  go_simp
  refine hK _ _ ?_
  clear hK
  walk_nrm
  rw [re_alloc]
  refine opsM_re ?_
  try simp only [re_size]
  obtain ⟨w12, hw12⟩ : ∃ x, x = w11.alloc (.cells #[.slice none 0 0] 23) := ⟨_, rfl⟩
  have hbx := cell_row1 (show w12.heap[w11.heap.size]? = some (.cells #[.slice none 0 0] 23) from by rw [hw12]; exact heap_alloc_new w11 _)
  rw [← hw12]
  have Hw12 := Lib.hid hw12
  clear hw12
  refine opsM_k calmM hG rfl rfl rfl (fun t d K hK => ?_)
  have hx1 : (w12.re t d).cell? ⟨w11.heap.size, 0, none⟩ = some (.slice none 0 0) := hbx.1
  have hx2 : (w12.re t d).frozen? ⟨w11.heap.size, 0, none⟩ = false := hbx.2
  go_simp
  rw [re_setCell]
  refine hK _ _ (opsM_re ?_)
  clear hK hx1 hx2
  walk_nrm
  obtain ⟨w13, hw13⟩ : ∃ x, x = w12.setCell ⟨w11.heap.size, 0, none⟩ (.slice q11 (total L) c11) := ⟨_, rfl⟩
  have hN13 : NewAt w11 w13 (.slice q11 (total L) c11) 23 := by rw [hw13, Hw12.out]; exact newAt_alloc.set
  rw [← hw13]
  clear hw13 hbx
  refine opsM_nil ?_
  show wpM _ _ _ _ _ _ _ _ _ _ _
  refine wpM_seq (wpM_region ?_)
  simp only [List.size_toArray, List.length_cons, List.length_nil, Nat.reduceAdd, Nat.zero_add, List.range, List.range.loop]
  refine opsM_k calmM hG rfl rfl rfl (fun t d K hK => ?_)
  go_simp
  refine hK _ _ ?_
  clear hK
  walk_nrm
  rw [re_alloc]
  refine opsM_re ?_
  try simp only [re_size]
  obtain ⟨w14, hw14⟩ : ∃ x, x = w13.alloc (.cells #[.int .i64 0] 3) := ⟨_, rfl⟩
  have hbx := cell_row1 (show w14.heap[w13.heap.size]? = some (.cells #[.int .i64 0] 3) from by rw [hw14]; exact heap_alloc_new w13 _)
  rw [← hw14]
  have Hw14 := Lib.hid hw14
  clear hw14
  refine opsM_k calmM hG rfl rfl rfl (fun t d K hK => ?_)
  have hx1 : (w14.re t d).cell? ⟨w13.heap.size, 0, none⟩ = some (.int .i64 0) := hbx.1
  have hx2 : (w14.re t d).frozen? ⟨w13.heap.size, 0, none⟩ = false := hbx.2
  go_simp
  rw [re_setCell]
  refine hK _ _ (opsM_re ?_)
  clear hK hx1 hx2
  walk_nrm
  obtain ⟨w15, hw15⟩ : ∃ x, x = w14.setCell ⟨w13.heap.size, 0, none⟩ (.int .i64 0) := ⟨_, rfl⟩
  have hN15 : NewAt w13 w15 (.int .i64 0) 3 := by rw [hw15, Hw14.out]; exact newAt_alloc.set
  rw [← hw15]
  clear hw15 hbx
  refine opsM_nil ?_
  show wpM _ _ _ _ _ _ _ _ _ _ _
  have hR13 := hS11.below hN13.2
  have hR15 := hR13.below hN15.2
  have hQ15 := (Since.refl hR13.idle).below hN15.2
  have hs1113 : w11.heap.size < w13.heap.size := (Array.getElem?_eq_some_iff.1 hN13.1).1
  have hs1315 : w13.heap.size < w15.heap.size := (Array.getElem?_eq_some_iff.1 hN15.1).1
  have hs1011 := hS11.size
  have h13 : w15.heap[w11.heap.size]? = some (.cells #[.slice q11 (total L) c11] 23) := (hQ15.low _ hs1113).trans hN13.1
  have h14 : w15.heap[w13.heap.size]? = some (.cells #[.int .i64 0] 3) := hN15.1
  have hin15 : InI w15 q11 (mergeT L picks) := (hin11.below hN13.2).below hN15.2
  obtain ⟨b13, hb13⟩ : ∃ b, b = w11.heap.size := ⟨_, rfl⟩
  obtain ⟨b14, hb14⟩ : ∃ b, b = w13.heap.size := ⟨_, rfl⟩
  rw [← hb13] at h13
  rw [← hb14] at h14
  rw [← hb13, ← hb14]
  have hS15 := hS10.trans hR15
  have hge : ∀ x, w10.heap.size ≤ x → ¬ σ6.F x := fun x h1 h => by have := (hid10.fb x h).2; omega
  have hbb : w10.heap.size ≤ b13 ∧ b13 < b14 ∧ b14 < w15.heap.size := by omega
  have hq11' : ∀ a, q11 = some a → w10.heap.size ≤ a.block ∧ a.block < b13 := fun a e => by have := hq11 a e; omega
  clear hb13 hb14 hN13 hN15 hin11 hq11 hQ15 hR13
  subst hrf hr34
  obtain ⟨c86, hrfe, h86⟩ := rfMm_eq
  rw [hrfe]
  clear hrfe
  refine wpM_seq (wpM_seq (wpM_piece calmM hG calmR29 (noRet_true _) (R := fun t d a' w' => (Tb a'.tmps (.pointer (some ⟨b4, 0, none⟩)) (.func (.func 22) #[] #[.pointer (some ⟨bo, 0, none⟩), .pointer (some ⟨bp, 0, none⟩)]) (.pointer (some ⟨b13, 0, none⟩)) (.pointer (some ⟨b14, 0, none⟩)) v16 ∧ a'.tmps.getD 86 undef = .func (.func 22) #[] #[.pointer (some ⟨bo, 0, none⟩), .pointer (some ⟨bp, 0, none⟩)]) ∧ a'.defers = [] ∧ w' = w15.re t d) (fun t d => r29_lone (w15.re t d) (Tb.mk rfl rfl rfl rfl rfl rfl)) (fun a' w16 hR => ?_)))
  obtain ⟨t, d, t', d', ⟨hT16, h86v⟩, hd, hw⟩ := hR
  obtain ⟨T16, D⟩ := a'
  simp only at hd hT16 h86v
  subst hd
  obtain ⟨e16, o16, u16⟩ := re_eq hw
  clear hw
  have hR16 : Since σ6 w10 σ6 w16 (1000000 - 3 - n) := hR15.step (by rw [e16]; exact Nat.le_refl _) (fun x _ => by rw [e16]) o16 u16
  have hS16 := hS10.trans hR16
  have hlen : (things (L.map iv) picks 0).length = total L := by rw [things_len, total_iv]
  show wpM _ _ _ _ _ _ _ _ ⟨T16, []⟩ _ _
  have hroomN : L.length ≤ σ6.room := by have := hid10.room; omega
  refine wpM_block (wpM_range (f0 := 8) (idx := 8) (N := L.length) (bo := bo) (bp := bp) (cap := L.length) (ao := some ⟨g, 0, none⟩) (pa := pa) (pn := picks.length) (pc := pc') (picks := picks) (lists := L.map iv) (All := things (L.map iv) picks 0) (B0 := MmB b13 b14 q11 (total L)) (Iu := MmI b13 b14 q11 (total L) c11 (mergeT L picks)) (Ju := fun _ _ _ => False)
      (fun b hb => ⟨hb.2, hb.1⟩) ((h86 _).trans h86v) rfl { hR16.idle with room := hroomN } ((World.cell?_of_block (hR16.low bo (by omega))).trans hbo10) (hO10.later (fun _ _ h => h) (fun _ _ h => h) (fun ad _ h => hR16.low _ h) hR16.size) ((World.cell?_of_block (hR16.low bp (by omega))).trans hbp10) (hpk10.since hR16) rfl rfl (by rw [total_iv]; omega) (MmI.stab (merge_lenI L picks)) (fun _ _ _ _ h => h.elim) ⟨by rw [e16]; exact h13, InV.keep hin15 fun a _ _ => by rw [e16], by rw [e16]; exact h14, fun x => Iff.rfl⟩ (fun x hx => ?_) (fun h => ?_) (fun ad e h0 h => ?_)
      (mm_round hT16 (merge_lenI L picks) (by omega) (by omega) (fun a e => by have := hq11' a e; omega) mm_get) (fun σ7 B w17 hid7 hlat7 hgr7 hBF7 hI7 hd7 hdF hdB => ?_) (fun _ _ _ _ _ _ _ _ _ h => h.elim))
  · rw [e16]
    rcases hx with rfl | rfl | ⟨_, a, e, rfl⟩
    · exact ⟨by omega, hge _ (by omega)⟩
    · exact ⟨by omega, hge _ (by omega)⟩
    · have := hq11' a e
      exact ⟨by omega, hge _ (by omega)⟩
  · rcases h with h | h | ⟨_, a, e, h⟩
    · omega
    · omega
    · have := hq11' a e
      omega
  · have h1 := hpa10 ad e
    rcases h with h | h | ⟨_, a, e, h⟩
    · omega
    · omega
    · have := hq11' a e
      omega
  · obtain ⟨h137, _, h147, hB7⟩ := hI7
    rw [hlen] at h147
    replace hG : ∀ b, σ7.F b → Try.prog.globals.size ≤ b := fun b hb => (hid7.fb b hb).1
    have hnB : ∀ x, x < w10.heap.size → ¬ MmB b13 b14 q11 (total L) x := fun x hx h => by
      rcases h with h | h | ⟨_, a, e, h⟩
      · omega
      · omega
      · have := hq11' a e
        omega
    have hs1016 := hR16.size
    have hlow7 : ∀ x, x < w10.heap.size → w17.heap[x]? = w10.heap[x]? := fun x hx => (hgr7.low x (by omega) (hnB x hx)).trans (hR16.low x hx)
    have h4z : w17.heap[b4]? = some (.cells #[.bool false] 4) := (hlow7 b4 (by omega)).trans h4w
    have hF7 : ¬ σ7.F b4 := fun h => by
      rcases hlat7.f' b4 h with h | h
      · exact hF10 b4 (by omega) (by omega) h
      · omega
    have hS17 : Since σ pw σ7 w17 (σ6.room - L.length) := ⟨hid7, hS16.later.trans hlat7 hS16.size, Nat.le_trans hS16.size hgr7.size, fun x hx => by rw [hlow7 x (by omega)]; exact hS10.low x hx, hgr7.os.trans hS16.os, hgr7.output.trans hS16.output⟩
    obtain ⟨hx1, hx2⟩ := cell_row1 h4z
    show wpM _ _ _ _ _ _ _ _ ⟨T16, [w16.heap.size].map markD⟩ _ _
    refine wpM_seq (wpM_piece calmM hG calmR34 (noRet_true _) (R := fun t d a' w' => Tb a'.tmps (.pointer (some ⟨b4, 0, none⟩)) (.func (.func 22) #[] #[.pointer (some ⟨bo, 0, none⟩), .pointer (some ⟨bp, 0, none⟩)]) (.pointer (some ⟨b13, 0, none⟩)) (.pointer (some ⟨b14, 0, none⟩)) v16 ∧ a'.defers = [] ∧ w' = (w17.setCell ⟨b4, 0, none⟩ (.bool true)).re t d) (fun t d => r34_lone (w17.re t d) hT16 (cell_row1 h147).1 (cell_row1 h137).1 hx1 hx2 (by omega)) (fun a' w18 hR => ?_))
    obtain ⟨t, d, t', d', hT18, hd, hw⟩ := hR
    obtain ⟨T18, D⟩ := a'
    simp only at hd hT18
    subst hd
    obtain ⟨e18, o18, u18⟩ := re_eq hw
    clear hw
    obtain ⟨y0, y1, y2, y3, y5, y6, y7, y9, y10, y11, y12, y15, y17, y18, y19, y20, y21, y22, y23, y24, y25, y26, y27, y28, y29, y30, y31, y32, y33, y34, y35, y36, y37, y38, y39, y40, y41, y42, y43, y44, y45, y46, y47, y48, y49, y50, y51, y52, y53, y54, y55, y56, y57, y58, y59, y60, y61, y62, y63, y64, y65, y66, y67, y68, y69, y70, y71, y72, y73, y74, y75, y76, y77, y78, y79, y80, y81, y82, y83, y84, y85, y86, y87, y88, y89, y90, y91, y92, y93, y94, y95, y96, y97, y98, y99, y100, y101, y102, y103, y104, y105, y106, rfl⟩ := hT18.open
    show wpM _ _ _ _ _ _ _ _ ⟨_, [w16.heap.size].map markD⟩ _ _
    refine wpM_ret (hQ _ _ _ fun k' => law_trueC (ds := [w16.heap.size]) (r := 4) (b := b4) hst (hS17.step (w' := w18) (by rw [e18]; simp) (fun x hx => by rw [e18]; exact heap_setCell_other w17 ⟨b4, 0, none⟩ x _ (show x ≠ b4 by omega)) o18 u18) (by simp) (fun x hx => ?_) Try.func8 iniMmX rfl rfl ?_ hF7 (by simp; omega))
    · simp only [List.mem_singleton] at hx
      subst hx
      exact ⟨by omega, hdF, by rw [e18, heap_setCell_other w17 ⟨b4, 0, none⟩ _ _ (show w16.heap.size ≠ b4 by omega)]; exact hd7⟩
    · rw [e18, heap_setCell_same w17 b4 0 _ _ _ h4z]
      rfl
end
end Go.Proofs.Ytmllcfkgkkbkpaa
