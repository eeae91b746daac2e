/-
  MuxStreams: the walk.
-/
import Derived.Test.YtmllcfkgkkbkpaaPk7
import Derived.Test.YtmllcfkgkkbkpaaPk6
namespace Go.Proofs.Ytmllcfkgkkbkpaa
open Go Go.Conc Go.RowKit Go.Conc.Lib Go.ConcR.Gen
open Go.ConcN (upd upd_ne upd_same WgLive)
open Go.ConcR (KK wgBlock WgAt stA smA rd wr mk DC0)
noncomputable def bodyStX0 : Code := (Try.f5.body).getD .skip
theorem bodyStX_eq : Try.f5.body = some bodySt := rfl
theorem ntStX : Try.f5.ntmps = 98 := by kernel_rfl
theorem nmStX : (Try.f5.name == "runtime.NumGoroutine") = false := by kernel_rfl
theorem iniStX : Try.prog.inits.idxOf? 5 = none := by kernel_rfl
theorem app98_3 (a0 a1 a2 : Value) : (#[a0, a1, a2] : Array Value) ++ Array.replicate (98 - (#[a0, a1, a2] : Array Value).size) undef = #[a0, a1, a2, undef, undef, undef, undef, undef, undef, undef, undef, undef, undef, undef, undef, undef, undef, undef, undef, undef, undef, undef, undef, undef, undef, undef, undef, undef, undef, undef, undef, undef, undef, undef, undef, undef, undef, undef, undef, undef, undef, undef, undef, undef, undef, undef, undef, undef, undef, undef, undef, undef, undef, undef, undef, undef, undef, undef, undef, undef, undef, undef, undef, undef, undef, undef, undef, undef, undef, undef, undef, undef, undef, undef, undef, undef, undef, undef, undef, undef, undef, undef, undef, undef, undef, undef, undef, undef, undef, undef, undef, undef, undef, undef, undef, undef, undef, undef] := by
  apply Array.ext'
  simp [List.replicate]
theorem calmSz : calmCode ptM SM cvM szSt = true := by kernel_rfl
theorem calmR13 : calmCode ptM SM cvM r13St = true := by kernel_rfl
theorem lens_boundS {L : List (List Int)} (h : total L ≤ 1000000000000) : ∀ l ∈ L, l.length ≤ 1000000000000 := fun l hl => by
  obtain ⟨i, hi, rfl⟩ := List.mem_iff_getElem.1 hl
  have := total_get (List.getElem?_eq_getElem hi)
  omega
theorem st_get {L : List (List Int)} {picks : List Int} : ∀ (k i : Nat) (v : Value), (things (L.map iv) picks 0)[k]? = some (i, v) → ∃ y, v = .int .i64 y ∧ (mergeT L picks)[k]? = some y ∧ (turnsT L picks)[k]? = some ((i : Nat) : Int) := by
  intro k i v h
  rw [things_iv, List.getElem?_map] at h
  obtain ⟨⟨i', y⟩, h1, h2⟩ := Option.map_eq_some_iff.1 h
  simp only [Prod.mk.injEq] at h2
  obtain ⟨rfl, rfl⟩ := h2
  exact ⟨y, rfl, by unfold mergeT; rw [List.getElem?_map, h1]; rfl, by unfold turnsT; rw [List.getElem?_map, h1]; rfl⟩
section
variable {Post : Value → World → Prop} {σ : Ph} {pw : World} {c : Frame} {cs : List Frame}
theorem turnsS {room n cc np cp : Nat} {p pp : Option Addr} {L : List (List Int)} {picks : List Int} (hid : Idle σ pw room) (h : InI pw p (lens L)) (hn : L.length = n) (hs : n ≤ 1000000) (htot : total L ≤ 1000000000000) (hp : InI pw pp picks) (hnp : picks.length = np)
    (hk : ∀ v pw', Since σ pw σ pw' room → OwnI pw' pw.heap.size v (turnsT L picks) → MV Try.prog wtG zI zS Post σ (G (c.finish v) cs) pw') :
    MV Try.prog wtG zI zS Post σ (G (Frame.enter Try.prog 18 #[.slice p n cc, .slice pp np cp] .normal) (c :: cs)) pw := by
  refine mv_calls calmM (fun b hb => (hid.fb b hb).1) calmRT (R := fun t d v w' => OwnI w' pw.heap.size v (turnsT L picks) ∧ Below pw.heap.size (pw.re t d) w') (fun t d => (turns_any (pw.re t d) (h.re t d) hn hs htot (hp.re t d) hnp).mono fun e w' h => ?_) (fun v w2 hv => ?_)
  · obtain ⟨v, h1, h2, h3⟩ := h
    exact ⟨v, h1, h2, h3⟩
  · obtain ⟨t, d, t', d', ho, hb⟩ := hv
    exact hk v w2 ((Since.refl hid).belowR hb) ho
end
section
variable {W : World}
set_option maxRecDepth 100000 in
set_option maxHeartbeats 8000000 in
theorem muxStreams_ends {p pp : Option Addr} {L : List (List Int)} {picks : List Int} {n np c cp : Nat} {stop : Int} (hsh : W.ShapedOpen Try.prog) (hA0 : InLs W p L) (hp0 : InI W pp picks) (hn : L.length = n) (hnp : picks.length = np) (hsl : total L + L.length ≤ 1048576) (hsp : picks.length ≤ 1048576) (_hz : -9223372036854775808 ≤ stop ∧ stop ≤ 9223372036854775807) :
    Ends Try.prog (PostT W) (crowd #[G (Frame.enter Try.prog 5 #[.slice p n c, .slice pp np cp, .int .i64 stop] .normal) []] W none) #[] := by
  refine law_ends hsh fun σ pw hst hid => ?_
  have hA := hA0.start hst
  have hP := hp0.start hst
  have hlb := lens_boundS (L := L) (by omega)
  have hG : ∀ b, σ.F b → Try.prog.globals.size ≤ b := fun b hb => (hid.fb b hb).1
  refine mv_bodyG (cc := bodySt) Try.func5 bodyStX_eq (fun Q hQ => ?_)
  rw [ntStX, app98_3]
  obtain ⟨sz, hsz⟩ : ∃ x, x = szSt := ⟨_, rfl⟩
  obtain ⟨lp, hlp⟩ : ∃ x, x = lpSt := ⟨_, rfl⟩
  have hbody : bodySt = .seq (match bodySt with | .seq x _ => x | _ => .skip) (.seq (match bodySt with | .seq _ (.seq x _) => x | _ => .skip) (.seq (match bodySt with | .seq _ (.seq _ (.seq x _)) => x | _ => .skip) (.seq (match bodySt with | .seq _ (.seq _ (.seq _ (.seq x _))) => x | _ => .skip) (.seq (match bodySt with | .seq _ (.seq _ (.seq _ (.seq _ (.seq x _)))) => x | _ => .skip) (.seq (match bodySt with | .seq _ (.seq _ (.seq _ (.seq _ (.seq _ (.seq x _))))) => x | _ => .skip) (.seq szSt (.seq (match bodySt with | .seq _ (.seq _ (.seq _ (.seq _ (.seq _ (.seq _ (.seq _ (.seq x _))))))) => x | _ => .skip) (.seq lpSt (match bodySt with | .seq _ (.seq _ (.seq _ (.seq _ (.seq _ (.seq _ (.seq _ (.seq _ (.seq _ (x))))))))) => x | _ => .skip))))))))) := rfl
  rw [hbody, ← hsz, ← hlp]
  clear hbody
  simp only [bodySt, Try.f5, Option.getD_some]
  refine wpM_seq (wpM_region ?_)
  simp only [List.size_toArray, List.length_cons, List.length_nil, Nat.reduceAdd, Nat.zero_add, List.range, List.range.loop]
  refine opsM_k calmM hG rfl rfl rfl (fun t d K hK => ?_)
  go_simp
  refine hK _ _ ?_
  clear hK
  walk_nrm
  rw [re_alloc]
  refine opsM_re ?_
  try simp only [re_size]
  refine opsM_k calmM hG rfl rfl rfl (fun t d K hK => ?_)
  go_simp
  refine hK _ _ ?_
  clear hK
  walk_nrm
  rw [re_alloc]
  refine opsM_re ?_
  try simp only [re_size, World.size_alloc]
  refine opsM_nil ?_
  show wpM _ _ _ _ _ _ _ _ _ _ _
  obtain ⟨w1, hw1⟩ : ∃ w1, w1 = (pw.alloc (.cells #[.int .i64 stop] 3)).alloc (.cells #[.bool false] 4) := ⟨_, rfl⟩
  have hS1 : Since σ pw σ w1 1000000 := by rw [hw1]; exact ((Since.refl hid).alloc _).alloc _
  obtain ⟨b6, hb6⟩ : ∃ b, b = pw.heap.size + 1 := ⟨_, rfl⟩
  obtain ⟨b5, hb5⟩ : ∃ b, b = pw.heap.size := ⟨_, rfl⟩
  have hs1 : w1.heap.size = pw.heap.size + 2 := by rw [hw1]; simp only [World.size_alloc]
  have h5 : w1.heap[b5]? = some (.cells #[.int .i64 stop] 3) := by
    rw [hw1, hb5, alloc_other (by simp only [World.size_alloc]; omega)]
    exact alloc_self
  have h6 : w1.heap[b6]? = some (.cells #[.bool false] 4) := by
    have : b6 = (pw.alloc (.cells #[.int .i64 stop] 3)).heap.size := by rw [World.size_alloc, hb6]
    rw [hw1, this]
    exact alloc_self
  rw [← hw1, ← hb6, ← hb5]
  have hb5' : pw.heap.size ≤ b5 ∧ b5 ≤ pw.heap.size := by omega
  have hb6' : pw.heap.size + 1 ≤ b6 ∧ b6 ≤ pw.heap.size + 1 := by omega
  have hs1' : pw.heap.size + 2 ≤ w1.heap.size ∧ w1.heap.size ≤ pw.heap.size + 2 := by omega
  clear hw1 hb5 hb6 hs1
  refine wpM_seq (wpM_seq (wpM_region ?_))
  simp only [List.size_toArray, List.length_cons, List.length_nil, Nat.reduceAdd, Nat.zero_add, List.range, List.range.loop]
  refine opsM_enter (f := 9) rfl rfl (by intro c e; cases e) (fun w => run_enterOp rfl Try.func9 nmAl rfl w) (fun base cs hb => ?_)
  walk_nrm
  refine aliveM hS1.idle (by omega) fun σ1 w2 hS2 => hb _ _ _ ?_
  clear hb
  replace hG : ∀ b, σ1.F b → Try.prog.globals.size ≤ b := fun b hb => (hS2.idle.fb b hb).1
  walk_nrm
  refine opsM_k calmM hG rfl rfl rfl (fun t d K hK => ?_)
  go_simp
  refine hK _ _ (opsM_re ?_)
  clear hK
  walk_nrm
  refine opsM_nil ?_
  show wpM _ _ _ _ _ _ _ _ _ _ _
  refine wpM_cond (t := false) rfl ?_
  simp only [Bool.false_eq_true, ↓reduceIte]
  refine wpM_skip ?_
  show wpM _ _ _ _ _ _ _ _ _ _ _
  refine wpM_seq (wpM_seq (wpM_region ?_))
  simp only [List.size_toArray, List.length_cons, List.length_nil, Nat.reduceAdd, Nat.zero_add, List.range, List.range.loop]
  refine opsM_k calmM hG rfl rfl rfl (fun t d K hK => ?_)
  go_simp
  refine hK _ _ (opsM_re ?_)
  clear hK
  walk_nrm
  refine opsM_enter (f := 10) rfl rfl (by intro c e; cases e) (fun w => run_enterOp rfl Try.func10 nmMA rfl w) (fun base cs hb => ?_)
  walk_nrm
  refine manyS hS2.idle (hA.since (hS1.trans hS2)) hn (by omega) (by omega) fun w3 hS3 => hb _ _ _ ?_
  clear hb
  have hT3 := hS2.trans hS3
  have hS3' := hS1.trans hT3
  have hF1 : ∀ x, pw.heap.size ≤ x → x < w1.heap.size → ¬ σ1.F x := fun x h1 h2 h => by
    rcases hS2.later.f' x h with h | h
    · have := (hid.fb x h).2
      omega
    · omega
  by_cases hbig : 100 < n ∨ 2000 < total L
  · rw [decide_eq_true hbig]
    walk_nrm
    refine opsM_nil ?_
    show wpM _ _ _ _ _ _ _ _ _ _ _
    refine wpM_cond (t := true) (by first | rfl | (simp [Act.eval]; omega)) ?_
    simp only [↓reduceIte]
    refine wpM_seq (wpM_region ?_)
    have h63 : w3.heap[b6]? = some (.cells #[.bool false] 4) := (hT3.low b6 (by omega)).trans h6
    have hbx := cell_row1 h63
    simp only [List.size_toArray, List.length_cons, List.length_nil, Nat.zero_add, List.range, List.range.loop]
    refine opsM_k calmM hG rfl rfl rfl (fun t d K hK => ?_)
    have hx1 : (w3.re t d).cell? ⟨b6, 0, none⟩ = some (.bool false) := hbx.1
    have hx2 : (w3.re t d).frozen? ⟨b6, 0, none⟩ = false := hbx.2
    go_simp
    rw [re_setCell]
    refine hK _ _ (opsM_re ?_)
    clear hK hx1 hx2
    walk_nrm
    refine opsM_nil ?_
    show wpM _ _ _ _ _ _ _ _ _ _ _
    refine wpM_ret (hQ _ _ _ fun k' => law_trueC (ds := []) (r := 6) (b := b6) hst (hS3'.step (w' := w3.setCell ⟨b6, 0, none⟩ (.bool true)) (by simp) (fun x hx => heap_setCell_other w3 ⟨b6, 0, none⟩ x _ (show x ≠ b6 by omega)) rfl rfl) List.nodup_nil (by simp) Try.func5 iniStX rfl rfl ?_ (hF1 b6 (by omega) (by omega)) (by simp))
    rw [heap_setCell_same w3 b6 0 _ _ _ h63]
    rfl
  rw [decide_eq_false hbig]
  walk_nrm
  refine opsM_nil ?_
  show wpM _ _ _ _ _ _ _ _ _ _ _
  refine wpM_cond (t := false) (by first | rfl | (simp [Act.eval]; omega)) ?_
  simp only [Bool.false_eq_true, ↓reduceIte]
  refine wpM_skip ?_
  show wpM _ _ _ _ _ _ _ _ _ _ _
  refine wpM_seq (wpM_region ?_)
  simp only [List.size_toArray, List.length_cons, List.length_nil, Nat.reduceAdd, Nat.zero_add, List.range, List.range.loop]
  refine opsM_k calmM hG rfl rfl rfl (fun t d K hK => ?_)
  go_simp
  refine hK _ _ (opsM_re ?_)
  clear hK
  walk_nrm
  refine opsM_enter (f := 11) rfl rfl (by intro c e; cases e) (fun w => run_enterOp rfl Try.func11 nmCL rfl w) (fun base cs hb => ?_)
  walk_nrm
  refine copyLS hS3'.idle (hA.since hS3') hn (by omega) hlb fun u3 w3a hS3a hu3 => hb _ _ _ ?_
  clear hb
  obtain ⟨q3, c3, rfl, _, _, hL3, _⟩ := hu3.shape hn
  have hT3a := hT3.trans hS3a
  have hS3a' := hS1.trans hT3a
  clear hu3
  walk_nrm
  refine opsM_k calmM hG rfl rfl rfl (fun t d K hK => ?_)
  go_simp
  refine hK _ _ (opsM_re ?_)
  clear hK
  walk_nrm
  refine opsM_enter (f := 12) rfl rfl (by intro c e; cases e) (fun w => run_enterOp rfl Try.func12 nmCI rfl w) (fun base cs hb => ?_)
  walk_nrm
  refine copyS hS3a'.idle (hP.since hS3a') hnp (by omega) fun u4 w4 hS4 hu4 => hb _ _ _ ?_
  clear hb
  obtain ⟨q4, c4, rfl, _, _, hin4, _⟩ := hu4.shape hnp
  have hT4 := hT3a.trans hS4
  have hS4' := hS1.trans hT4
  have hL4 := hL3.since hS4
  clear hu4 hL3
  walk_nrm
  refine opsM_enter (f := 19) rfl rfl (by intro c e; cases e) (fun w => run_enterOp rfl Try.func19 nmStreamI rfl w) (fun base cs hb => ?_)
  walk_nrm
  have hlens : ∀ l ∈ L, l.length < 1000000000000 := fun l hl => by
    obtain ⟨i, hi, rfl⟩ := List.mem_iff_getElem.1 hl
    have := total_get (List.getElem?_eq_getElem hi)
    omega
  refine mv_calls calmM hG calmStreamI (R := fun t d v w' => ∃ base1 bo bp g pa pc', v = .func (.func 22) #[] #[.pointer (some ⟨bo, 0, none⟩), .pointer (some ⟨bp, 0, none⟩)] ∧ StreamAt w' w4.heap.size base1 bo bp g pa pc' L picks ∧ Below w4.heap.size (w4.re t d) w') (fun t d => (streamI_any (w4.re t d) (hL4.re t d) hn (by omega) hlens (hin4.re t d) hnp (by omega)).mono fun e w' h => ?_) (fun v w5 hv => ?_)
  · obtain ⟨base1, bo, bp, g, pa, pc', h1, h2, h3⟩ := h
    exact ⟨_, h1, base1, bo, bp, g, pa, pc', rfl, h2, h3⟩
  obtain ⟨t, d, t', d', base1, bo, bp, g, pa, pc', rfl, hSt, hb2⟩ := hv
  obtain ⟨hsz5, hlow5, hos5, hout5⟩ := below_re hb2
  replace hSt : StreamAt w5 w4.heap.size base1 bo bp g pa pc' L picks := hSt.keep (fun _ _ _ => rfl) (Nat.le_refl _)
  refine hb _ _ _ ?_
  clear hb hb2 hL4 hin4
  walk_nrm
  refine opsM_k calmM hG rfl rfl rfl (fun t d K hK => ?_)
  go_simp
  refine hK _ _ (opsM_re ?_)
  clear hK
  walk_nrm
  refine opsM_nil ?_
  show wpM _ _ _ _ _ _ _ _ _ _ _
  have hlo := hSt.lo
  have hhi := hSt.hi
  have hs4 := hT4.size
  refine wpM_frozen hSt (hS4'.idle.grow hsz5) (fun x hx => by have := (hS4'.idle.fb x hx).2; omega) (by have := hS4'.idle.gs; omega) hlens (by omega) fun σ6 w6 hid6 hroom6 hlat6 hO6 hsz6 hlow6 hos6 hout6 => ?_
  have hS6 : Since σ pw σ6 w6 (1000000 - 3) := ⟨hid6, hS4'.later.trans (hlat6 pw (by omega)) (Nat.le_refl _), by omega, fun x hx => by rw [hlow6 x (by omega), hlow5 x (by omega), hS4'.low x hx], by rw [hos6, hos5, hS4'.os], by rw [hout6, hout5, hS4'.output]⟩
  have h5w : w6.heap[b5]? = some (.cells #[.int .i64 stop] 3) := by rw [hlow6 b5 (by omega), hlow5 b5 (by omega), hT4.low b5 (by omega), h5]
  have h6w : w6.heap[b6]? = some (.cells #[.bool false] 4) := by rw [hlow6 b6 (by omega), hlow5 b6 (by omega), hT4.low b6 (by omega), h6]
  have hF6 : ∀ x, pw.heap.size ≤ x → x < w1.heap.size → ¬ σ6.F x := fun x h1 h2 h => by
    rcases (hlat6 w4 (by omega)).f' x h with h | h
    · exact hF1 x h1 h2 h
    · omega
  have cellk : ∀ {x v}, w5.cell? ⟨x, 0, none⟩ = some v → x < base1 → w6.cell? ⟨x, 0, none⟩ = some v := fun {x v} h hx => (World.cell?_of_block (hlow6 _ hx)).trans h
  have hbo6 := cellk hSt.own (by omega)
  have hbp6 := cellk hSt.bpc (by omega)
  obtain ⟨hpk6, hpa6⟩ : InI w6 pa picks ∧ ∀ a, pa = some a → w4.heap.size ≤ a.block ∧ a.block < w6.heap.size := by
    obtain ⟨_, _, e, _, _, h4, h5⟩ := OwnI.shape hSt.picks rfl
    simp only [Value.slice.injEq, true_and] at e
    obtain ⟨rfl, rfl⟩ := e
    exact ⟨h4.keep fun ad h1 _ => hlow6 _ (hSt.pa ad h1), fun a ha => ⟨(h5 a ha).1, by have := (h5 a ha).2.1; omega⟩⟩
  have hst1 : pw.heap.size ≤ b5 ∧ b5 < w4.heap.size ∧ pw.heap.size ≤ b6 ∧ b6 < w4.heap.size ∧ b5 ≠ b6 ∧ w4.heap.size ≤ bo ∧ bo < w6.heap.size ∧ w4.heap.size ≤ bp ∧ bp < w6.heap.size ∧ w4.heap.size ≤ g ∧ g < w6.heap.size := by omega
  have hF6b := fun x => hF6 x
  clear hSt cellk hlow6 hlow5 hos6 hos5 hout6 hout5 hlat6 hroom6 hsz6 hsz5 hlo hhi h5 h6 hS4 hS3a hS3
  replace hG : ∀ b, σ6.F b → Try.prog.globals.size ≤ b := fun b hb => (hid6.fb b hb).1
  refine wpM_seq (wpM_region ?_)
  simp only [List.size_toArray, List.length_cons, List.length_nil, Nat.reduceAdd, Nat.zero_add, List.range, List.range.loop]
  refine opsM_k calmM hG rfl rfl rfl (fun t d K hK => ?_)
  go_simp
  refine hK _ _ (opsM_re ?_)
  clear hK
  walk_nrm
  refine opsM_k calmM hG rfl rfl rfl (fun t d K hK => ?_)
  go_simp
  refine hK _ _ (opsM_re ?_)
  clear hK
  walk_nrm
  refine opsM_enter (f := 15) rfl rfl (by intro c e; cases e) (fun w => run_enterOp rfl Try.func15 nmRM rfl w) (fun base cs hb => ?_)
  walk_nrm
  refine refMergeS hid6 (hA.since hS6) hn (by omega) (by omega) (hP.since hS6) hnp fun u7 w7 hS7 hu7 => hb _ _ _ ?_
  clear hb
  obtain ⟨q7, c7, rfl, _, _, hin7, hq7⟩ := hu7.shape (n := total L) (merge_lenI L picks)
  clear hu7
  walk_nrm
  refine opsM_k calmM hG rfl rfl rfl (fun t d K hK => ?_)
  go_simp
  refine hK _ _ ?_
  clear hK
  walk_nrm
  rw [re_alloc]
  refine opsM_re ?_
  try simp only [re_size]
  obtain ⟨w8, hw8⟩ : ∃ x, x = w7.alloc (.cells #[.slice none 0 0] 23) := ⟨_, rfl⟩
  have hbx := cell_row1 (show w8.heap[w7.heap.size]? = some (.cells #[.slice none 0 0] 23) from by rw [hw8]; exact heap_alloc_new w7 _)
  rw [← hw8]
  have Hw8 := Lib.hid hw8
  clear hw8
  refine opsM_k calmM hG rfl rfl rfl (fun t d K hK => ?_)
  have hx1 : (w8.re t d).cell? ⟨w7.heap.size, 0, none⟩ = some (.slice none 0 0) := hbx.1
  have hx2 : (w8.re t d).frozen? ⟨w7.heap.size, 0, none⟩ = false := hbx.2
  go_simp
  rw [re_setCell]
  refine hK _ _ (opsM_re ?_)
  clear hK hx1 hx2
  walk_nrm
  obtain ⟨w9, hw9⟩ : ∃ x, x = w8.setCell ⟨w7.heap.size, 0, none⟩ (.slice q7 (total L) c7) := ⟨_, rfl⟩
  have hN9 : NewAt w7 w9 (.slice q7 (total L) c7) 23 := by rw [hw9, Hw8.out]; exact newAt_alloc.set
  rw [← hw9]
  clear hw9 hbx
  refine opsM_nil ?_
  show wpM _ _ _ _ _ _ _ _ _ _ _
  have hR9 := hS7.below hN9.2
  have hQ9 := Since.refl hR9.idle
  have hin9 : InI w9 q7 (mergeT L picks) := hin7.below hN9.2
  refine wpM_seq (wpM_region ?_)
  simp only [List.size_toArray, List.length_cons, List.length_nil, Nat.reduceAdd, Nat.zero_add, List.range, List.range.loop]
  refine opsM_k calmM hG rfl rfl rfl (fun t d K hK => ?_)
  go_simp
  refine hK _ _ ?_
  clear hK
  walk_nrm
  rw [re_alloc]
  refine opsM_re ?_
  try simp only [re_size]
  refine opsM_k calmM hG rfl rfl rfl (fun t d K hK => ?_)
  go_simp
  refine hK _ _ (opsM_re ?_)
  clear hK
  walk_nrm
  refine opsM_nil ?_
  show wpM _ _ _ _ _ _ _ _ _ _ _
  have hown0 := OwnI.made w9
  have hR10 := hR9.alloc (.cells #[] 3)
  have hQ10 := hQ9.alloc (.cells #[] 3)
  obtain ⟨w10, hw10⟩ : ∃ x, x = w9.alloc (.cells #[] 3) := ⟨_, rfl⟩
  have hw10s : w9.heap.size ≤ w10.heap.size := by rw [hw10]; simp
  rw [← hw10] at hown0 hR10 hQ10 ⊢
  clear hw10
  have hS10 := hS6.trans hR10
  subst hsz
  refine wpM_seq (wpM_piece calmM hG calmSz (noRet_true _) (R := fun t d a' w' => (∃ v, Tz a'.tmps (.slice p n c) (.slice pp np cp) (.pointer (some ⟨b5, 0, none⟩)) (.pointer (some ⟨b6, 0, none⟩)) (.func (.func 22) #[] #[.pointer (some ⟨bo, 0, none⟩), .pointer (some ⟨bp, 0, none⟩)]) (.pointer (some ⟨w7.heap.size, 0, none⟩)) v ∧ OwnI w' w9.heap.size v (lens L)) ∧ a'.defers = [] ∧ Below w9.heap.size (w10.re t d) w') (fun t d => sz_lone (w10.re t d) (Tz.mk rfl rfl rfl rfl rfl rfl rfl rfl) hown0 ((hA.since hS10).re t d) hn (by omega) hw10s (fun a e h0 => by
    have h1 := hA
    obtain ⟨hs0, h2, h3, _⟩ := h1
    have := h2.low a e (by omega)
    have := hS6.size
    have := hR9.size
    omega)) (fun a' w11 hR => ?_))
  obtain ⟨t, d, t', d', ⟨v, hTz, hown⟩, hd, hbel⟩ := hR
  obtain ⟨T, D⟩ := a'
  simp only at hd hTz
  subst hd
  obtain ⟨v2, v3, v4, v10, v11, v12, v13, v14, v15, v16, v17, v18, v19, v20, v21, v22, v23, v24, v25, v26, v27, v28, v29, v30, v31, v32, v33, v34, v35, v36, v37, v38, v39, v40, v41, v42, v43, v44, v45, v46, v47, v48, v49, v50, v51, v52, v53, v54, v55, v56, v57, v58, v59, v60, v61, v62, v63, v64, v65, v66, v67, v68, v69, v70, v71, v72, v73, v74, v75, v76, v77, v78, v79, v80, v81, v82, v83, v84, v85, v86, v87, v88, v89, v90, v91, v92, v93, v94, v95, v96, v97, rfl⟩ := hTz.open
  have hR9s := hR9.size
  have hR11 : Since σ6 w6 σ6 w11 (1000000 - 3) := hR10.step hbel.size (fun x hx => hbel.block x (by omega)) hbel.os hbel.output
  have hQ11 : Since σ6 w9 σ6 w11 (1000000 - 3) := hQ10.step hbel.size (fun x hx => hbel.block x (by omega)) hbel.os hbel.output
  replace hown : OwnI w11 w9.heap.size v (lens L) := hown
  obtain ⟨q11, c11, rfl, _, _, hin11, _⟩ := hown.shape (n := n) (by rw [lens_length, hn])
  clear hbel hTz hown hown0 hR10 hQ10 hS10
  show wpM _ _ _ _ _ _ _ _ ⟨_, []⟩ _ _
  refine wpM_seq (wpM_region ?_)
  simp only [List.size_toArray, List.length_cons, List.length_nil, Nat.reduceAdd, Nat.zero_add, List.range, List.range.loop]
  refine opsM_k calmM hG rfl rfl rfl (fun t d K hK => ?_)
  go_simp
  refine hK _ _ (opsM_re ?_)
  clear hK
  walk_nrm
  refine opsM_k calmM hG rfl rfl rfl (fun t d K hK => ?_)
  go_simp
  refine hK _ _ (opsM_re ?_)
  clear hK
  walk_nrm
  refine opsM_enter (f := 18) rfl rfl (by intro c e; cases e) (fun w => run_enterOp rfl Try.func18 nmRT rfl w) (fun base cs hb => ?_)
  walk_nrm
  refine turnsS hR11.idle hin11 hn (by omega) (by omega) (hP.since (hS6.trans hR11)) hnp fun u12 w12 hS12 hu12 => hb _ _ _ ?_
  clear hb
  obtain ⟨q12, c12, rfl, _, _, hin12, hq12⟩ := hu12.shape (n := total L) (turnsT_len L picks)
  clear hu12 hin11
  walk_nrm
  refine opsM_k calmM hG rfl rfl rfl (fun t d K hK => ?_)
  go_simp
  refine hK _ _ ?_
  clear hK
  walk_nrm
  rw [re_alloc]
  refine opsM_re ?_
  try simp only [re_size]
  obtain ⟨w13, hw13⟩ : ∃ x, x = w12.alloc (.cells #[.slice none 0 0] 23) := ⟨_, rfl⟩
  have hbx := cell_row1 (show w13.heap[w12.heap.size]? = some (.cells #[.slice none 0 0] 23) from by rw [hw13]; exact heap_alloc_new w12 _)
  rw [← hw13]
  have Hw13 := Lib.hid hw13
  clear hw13
  refine opsM_k calmM hG rfl rfl rfl (fun t d K hK => ?_)
  have hx1 : (w13.re t d).cell? ⟨w12.heap.size, 0, none⟩ = some (.slice none 0 0) := hbx.1
  have hx2 : (w13.re t d).frozen? ⟨w12.heap.size, 0, none⟩ = false := hbx.2
  go_simp
  rw [re_setCell]
  refine hK _ _ (opsM_re ?_)
  clear hK hx1 hx2
  walk_nrm
  obtain ⟨w14, hw14⟩ : ∃ x, x = w13.setCell ⟨w12.heap.size, 0, none⟩ (.slice q12 (total L) c12) := ⟨_, rfl⟩
  have hN14 : NewAt w12 w14 (.slice q12 (total L) c12) 23 := by rw [hw14, Hw13.out]; exact newAt_alloc.set
  rw [← hw14]
  clear hw14 hbx
  refine opsM_nil ?_
  show wpM _ _ _ _ _ _ _ _ _ _ _
  have hR14 := (hR11.trans hS12).below hN14.2
  have hQ14 := (hQ11.trans hS12).below hN14.2
  have hin14 : InI w14 q12 (turnsT L picks) := hin12.below hN14.2
  rw [hlp, lpSt_eq]
  refine wpM_seq (wpM_seq (wpM_piece calmM hG calmR13 (noRet_true _) (R := fun t d a' w' => (∃ x13 x14 x15, Tm a'.tmps (.pointer (some ⟨b5, 0, none⟩)) (.pointer (some ⟨b6, 0, none⟩)) (.func (.func 22) #[] #[.pointer (some ⟨bo, 0, none⟩), .pointer (some ⟨bp, 0, none⟩)]) (.pointer (some ⟨w7.heap.size, 0, none⟩)) (.pointer (some ⟨w12.heap.size, 0, none⟩)) (.pointer (some ⟨w14.heap.size, 0, none⟩)) x13 x14 x15) ∧ a'.defers = [] ∧ NewAt (w14.re t d) w' (.int .i64 0) 3) (fun t d => by
    refine Code.wp_mono ?_ (r13_lone (w14.re t d) (Tm.mk rfl rfl rfl rfl rfl rfl rfl rfl rfl rfl))
    exact fun e a' w' h => ⟨h.1, ⟨_, _, _, h.2.1⟩, h.2.2⟩) (fun a' w15 hR => ?_)))
  obtain ⟨t, d, t', d', hT15, hd, hnew, hbel⟩ := hR
  obtain ⟨T15, D⟩ := a'
  simp only at hd hT15
  subst hd
  have hR15 := hR14.belowR hbel
  have hQ15 := hQ14.belowR hbel
  have hK15 := (Since.refl hR14.idle).belowR hbel
  replace hnew : w15.heap[w14.heap.size]? = some (.cells #[.int .i64 0] 3) := hnew
  have hs79 : w7.heap.size < w9.heap.size := (Array.getElem?_eq_some_iff.1 hN9.1).1
  have hs1214 : w12.heap.size < w14.heap.size := (Array.getElem?_eq_some_iff.1 hN14.1).1
  have hs67 := hS7.size
  have hs1112 := hS12.size
  have hs611 := hR11.size
  have hs12 : w6.heap.size ≤ w12.heap.size := by omega
  have hs14 : w6.heap.size ≤ w14.heap.size := by omega
  have hge : ∀ x, w6.heap.size ≤ x → ¬ σ6.F x := fun x h1 h => by have := (hid6.fb x h).2; omega
  have h100 : L.length ≤ 100 := by omega
  refine wpM_block (wpM_loopN (JJ σ pw L.length (total L) c7 c12 stop b5 b6 w7.heap.size w12.heap.size bo bp g picks.length pc' w6.heap.size q7 q12 pa (mergeT L picks) (turnsT L picks) picks L) (n := 2) ⟨by omega, w14.heap.size, [], T15, rfl, ?_⟩ (fun n' a σ' w hJ => stm_outer (S1 := w4.heap.size) hJ (merge_lenI L picks) (turnsT_len L picks) (by omega) rfl rfl hst1 hpa6 st_get (fun a σ' w hJ => ?_)))
  · refine ⟨hT15, (hS6.trans { hR15 with idle := { hR15.idle with room := by have := hR15.idle.room; omega } }), by have := hR15.size; omega, ⟨?_, ?_, ?_, hnew, ?_, ?_⟩, fun x hx => ?_, ⟨(hR15.low b6 (by omega)).trans h6w, hF6 b6 (by omega) (by omega)⟩, ?_, ?_, ?_, ?_, List.nodup_nil, fun x hx => by simp at hx⟩
    · exact (hR15.low b5 (by omega)).trans h5w
    · exact (hQ15.low _ hs79).trans hN9.1
    · exact (hK15.low _ hs1214).trans hN14.1
    · exact hin9.since hQ15
    · exact hin14.since hK15
    · rcases hx with rfl | rfl | rfl | rfl | ⟨_, a, e, rfl⟩ | ⟨_, a, e, rfl⟩
      · exact ⟨hF6 _ (by omega) (by omega), .inl rfl⟩
      · exact ⟨hge _ hs67, .inr hs67⟩
      · exact ⟨hge _ hs12, .inr hs12⟩
      · exact ⟨hge _ hs14, .inr hs14⟩
      · have := (hq7 a e).1
        exact ⟨hge _ this, .inr this⟩
      · have := (hq12 a e).1
        exact ⟨hge _ (by omega), .inr (by omega)⟩
    · exact (World.cell?_of_block (hR15.low bo (by omega))).trans hbo6
    · exact hO6.later (fun _ _ h => h) (fun _ _ h => h) (fun ad _ h => hR15.low _ h) hR15.size
    · exact (World.cell?_of_block (hR15.low bp (by omega))).trans hbp6
    · exact hpk6.since hR15
  · obtain ⟨_, b12, ds, T, rfl, hL⟩ := hJ
    show wpM _ _ _ _ _ _ _ _ _ _ _
    replace hG : ∀ b, σ'.F b → Try.prog.globals.size ≤ b := fun b hb => (hL.since.idle.fb b hb).1
    obtain ⟨x13, x14, x15, hT⟩ := hL.tm
    obtain ⟨v0, v1, v2, v3, v4, v9, v10, v16, v17, v18, v19, v20, v21, v22, v23, v24, v25, v26, v27, v28, v29, v30, v31, v32, v33, v34, v35, v36, v37, v38, v39, v40, v41, v42, v43, v44, v45, v46, v47, v48, v49, v50, v51, v52, v53, v54, v55, v56, v57, v58, v59, v60, v61, v62, v63, v64, v65, v66, v67, v68, v69, v70, v71, v72, v73, v74, v75, v76, v77, v78, v79, v80, v81, v82, v83, v84, v85, v86, v87, v88, v89, v90, v91, v92, v93, v94, v95, v96, v97, rfl⟩ := hT.open
    clear hT
    refine wpM_seq (wpM_region ?_)
    have hbx := cell_row1 hL.r6.1
    simp only [List.size_toArray, List.length_cons, List.length_nil, Nat.zero_add, List.range, List.range.loop]
    refine opsM_k calmM hG rfl rfl rfl (fun t d K hK => ?_)
    have hx1 : (w.re t d).cell? ⟨b6, 0, none⟩ = some (.bool false) := hbx.1
    have hx2 : (w.re t d).frozen? ⟨b6, 0, none⟩ = false := hbx.2
    go_simp
    rw [re_setCell]
    refine hK _ _ (opsM_re ?_)
    clear hK hx1 hx2
    walk_nrm
    refine opsM_nil ?_
    show wpM _ _ _ _ _ _ _ _ _ _ _
    refine wpM_ret (hQ _ _ _ fun k' => law_trueC (ds := ds) (r := 6) (b := b6) hst (hL.since.step (w' := w.setCell ⟨b6, 0, none⟩ (.bool true)) (by simp) (fun x hx => heap_setCell_other w ⟨b6, 0, none⟩ x _ (show x ≠ b6 by omega)) rfl rfl) hL.nd (fun x hx => ?_) Try.func5 iniStX rfl rfl ?_ hL.r6.2 (fun h => ?_))
    · obtain ⟨h1, h2, h3, _⟩ := hL.marks x hx
      have := hS6.size
      exact ⟨by omega, h2, (heap_setCell_other w ⟨b6, 0, none⟩ x _ (show x ≠ b6 by omega)).trans h3⟩
    · rw [heap_setCell_same w b6 0 _ _ _ hL.r6.1]
      rfl
    · have := (hL.marks _ h).1
      omega
end
end Go.Proofs.Ytmllcfkgkkbkpaa
