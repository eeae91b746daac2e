/-
  Stream's CLOSURE, pairs, whole.
-/
import Derived.Test.YtmllcfkgkkbkpaaHvStrMP
import Derived.Test.YtmllcfkgkkbkpaaPk9
import Derived.Test.YtmllcfkgkkbkpaaPk6
import Derived.Test.YtmllcfkgkkbkpaaPk8
namespace Go.Proofs.Ytmllcfkgkkbkpaa.Pr
open Go Go.Conc Go.RowKit Go.Conc.Lib Go.ConcR.Gen
open Go.ConcN (upd upd_ne upd_same WgLive)
open Go.ConcR (KK wgBlock WgAt stA smA rd wr mk DC0)
theorem ItemsAt.later {σ σ' : Ph} {a0 : Option Addr} {n : Nat} {items : List PV} (h : ItemsAt σ a0 n items) (hl : ∀ x o, σ.lay x = some o → σ'.lay x = some o) (hs : ∀ x, (σ.lay x).isSome = true → σ'.SW x → σ.SW x) : ItemsAt σ' a0 n items :=
  ⟨h.len, h.small, h.nil, h.shape, fun b o h1 h2 => let ⟨ob, h3, h4, h5⟩ := h.row b o h1 h2; ⟨ob, hl _ _ h3, fun e => h4 (hs _ (by rw [h3]; rfl) e), h5⟩⟩
theorem OwnAt.later {σ σ' : Ph} {w w' : World} {ao : Option Addr} {N : Nat} {lists : List (List PV)} (h : OwnAt σ w ao N lists) (hl : ∀ x o, σ.lay x = some o → σ'.lay x = some o) (hs : ∀ x, (σ.lay x).isSome = true → σ'.SW x → σ.SW x)
    (hw : ∀ ad, ao = some ad → ad.block < w.heap.size → w'.heap[ad.block]? = w.heap[ad.block]?) (hsz : w.heap.size ≤ w'.heap.size) : OwnAt σ' w' ao N lists :=
  ⟨h.len, h.small, fun i items hi => let ⟨ad, a0, n, c, h1, h2, h3, h4⟩ := h.row i items hi; ⟨ad, a0, n, c, h1, by omega, (World.cell?_of_block (by rw [add_blk]; exact hw ad h1 h2)).trans h3, h4.later hl hs⟩⟩
section
variable {z z' : Value} {Post : Value → World → Prop} {σ : Ph} {pw : World} {c : Frame} {cs : List Frame}
/-- ████ ITS WAY OUT: close(quit), Wait, the return. ████ -/
theorem strOut {f : FuncId} {fn : Func} {ats : Array TypeId} {a : Act} (hf : Try.prog.funcs[f]? = some fn) (hres : fn.results = #[]) (hnr : (Try.prog.funcs[f]?).any (·.norace) = false) (hd : a.defers = [dCloseA ats σ.quit, dcall 23 #[.pointer (some ⟨σ.Wg, 0, none⟩)]])
    (ht : σ.tag = .opn false) (hd0 : σ.d0 = 0) (hc : σ.closed = false) (hFq : σ.F σ.quit) (hFw : σ.F σ.Wg)
    (hn : ∀ vb, MW Try.prog wtG z z' Post (over1 { σ with closed := true, d0 := 0, vb := vb, tag := .fin }) (G (c.finish (.tuple #[])) cs) pw) (k : List Item) : MW Try.prog wtG z z' Post σ (G (outF f a k) (c :: cs)) pw := by
  refine mw_close (ats := ats) (ds := [dcall 23 #[.pointer (some ⟨σ.Wg, 0, none⟩)]]) rfl hd hnr (by rw [ht]; simp) hc hFq ?_
  refine mw_enterD (ds := []) (cc := body_wait wgl) rfl rfl Try.func23 nmWait bodyWait ?_
  rw [ntWait, app84]
  refine mw_wait (σ := { σ with closed := true }) (L := wgl) wgLib ht hd0 rfl hFw rfl (fun w hl => waitStartX (P := Try.prog) (L := wgl) wgLib (fun _ _ r => r.2) w hl) fun vb => ?_
  refine mw_leave (v := .tuple #[]) rfl hf rfl (fun w => ?_) (hn vb)
  constructor <;> simp [results, hres, go_sem]
end
section
variable {Post : Value → World → Prop} {σ σ1 : Ph} {pw pw0 : World} {Q : Exit → Act → Ph → World → Prop} {fn : Frame → Prop} {l bo bp N k s1 pn pc cap : Nat} {pa ao : Option Addr} {picks : List Int} {c6 c7 : Value} {All : List (Nat × Value)} {B0 : Nat → Prop} {r : Loop} {I J : (Nat → Prop) → List (Nat × Value) → World → Prop} {a : Act} {lists : List (List PV)} {c : Frame} {cs : List Frame}
theorem inv2_total (hI : Inv2 B0 pw0 σ1 s1 l bp picks N c6 c7 All I k a σ pw) : All.length = k + total (remsOf σ.rem σ1.first N) := by
  obtain ⟨T, dn, B, rfl, hT, t0, t2, t6, t7, t10, _, own6, own7, hdk, hAll, _⟩ := hI
  rw [hAll, List.length_append, hdk, things_len]
theorem strLoop2 (hC : Caller Post l r All I J) (hPV : ∀ q ∈ All, ∃ y : PV, q.2 = prv y) (hN : N < 1000000) (htot : All.length < 4000000000000000000) (hs1 : pw0.heap.size ≤ s1) (hbp : pw0.cell? ⟨bp, 0, none⟩ = some (.slice pa pn pc)) (hpicks : InI pw0 pa picks) (hpn : picks.length = pn) (hbB : ¬ B0 bp) (hpB : ∀ ad, pa = some ad → 0 < pn → ¬ B0 ad.block)
    (htag : σ1.tag = .opn false) (hcl : σ1.closed = false) (hn1 : σ1.n = N) (hI : Inv2 B0 pw0 σ1 s1 l bp picks N c6 c7 All I 0 a σ pw)
    (hret : ∀ a' σ' pw', Out2 B0 pw0 σ1 All I J a' σ' pw' → Q .ret a' σ' pw') :
    wpW Try.prog wtG zI zS Post fn (.block 2 (.loop loopT2)) Q a σ pw := by
  refine wpW_block (wpW_loop (fun a σ pw => ∃ k, Inv2 B0 pw0 σ1 s1 l bp picks N c6 c7 All I k a σ pw) (fun _ σ _ => total (remsOf σ.rem σ1.first N)) ⟨0, hI⟩ fun a σ pw hI => ?_)
  obtain ⟨k, hI⟩ := hI
  have hk := inv2_total hI
  refine wpW_mono (strRound2 hC hPV hN htot hs1 hbp hpicks hpn hbB hpB htag hcl hn1 hI (Q := inBlockM 2 Q) hret) fun e a' σ' pw' q => ?_
  cases e with
  | normal =>
    obtain ⟨hI', hl⟩ := q
    have := inv2_total hI'
    exact ⟨⟨k + 1, hI'⟩, by omega⟩
  | exit id => exact q
  | ret => exact q
  | goto l => exact q
  | panic ch => exact q
  | outgrown => exact q
theorem restT_eq : restT = .seq (.region 13 #[{ dst := some 10, op := .assign (.const (.int .i64 0)), type := 3, pos := "mux.go:60", after := #[], guard := none }] false) (.block 2 (.loop loopT2)) := rfl
set_option maxRecDepth 100000 in
set_option maxHeartbeats 2000000 in
/-- From the end of the first loop. -/
theorem strRest {σ0 : Ph} {w0 : World} (hC : Caller Post l r All I J) (hPV : ∀ q ∈ All, ∃ y : PV, q.2 = prv y) (hN : N < 1000000) (htot : All.length < 4000000000000000000) (hbp : pw0.cell? ⟨bp, 0, none⟩ = some (.slice pa pn pc)) (hpicks : InI pw0 pa picks) (hpn : picks.length = pn) (hbB : ¬ B0 bp) (hpB : ∀ ad, pa = some ad → 0 < pn → ¬ B0 ad.block)
    (hlen : lists.length = N) (hAll : All = things (lists.map (·.map prv)) picks 0) (hs1 : pw0.heap.size ≤ w0.heap.size) (hgs0 : Try.prog.globals.size ≤ pw0.heap.size) (hw0 : ∀ x, x < pw0.heap.size → w0.heap[x]? = pw0.heap[x]?) (ho0 : w0.os = pw0.os) (hu0 : w0.output = pw0.output) (hI0 : I B0 [] pw0) (hB0 : ∀ x, B0 x → x < pw0.heap.size ∧ ¬ σ0.F x)
    (hI : Inv1 σ0 w0 l bo bp ao N cap lists N a σ pw)
    (hret : ∀ σ1 w1 a' σ' pw', Ph1 σ0 w0 lists N σ1 w1 → Out2 B0 pw0 σ1 All I J a' σ' pw' → Q .ret a' σ' pw') : wpW Try.prog wtG zI zS Post fn restT Q a σ pw := by
  obtain ⟨T, c6, c7, rfl, hT, t0, t1, t2, t4, t5, t6, t7, t17, t18, t19, own6, own7, nf6, nf7, hp⟩ := hI
  have hgz := hp.size
  rw [restT_eq]
  refine wpW_seq (wpW_region ?_)
  simp only [List.size_toArray, List.length_cons, List.length_nil, Nat.zero_add, List.range, List.range.loop]
  refine opsW_read calmM hp.fb (by omega) rfl rfl rfl (fun κ t d K hK => ?_)
  go_simp
  refine hK _ ?_
  clear hK
  refine opsW_nil ?_
  show wpW _ _ _ _ _ _ _ _ _ _ _
  have hrem : remsOf σ.rem σ.first N = lists.map (·.map prv) := remsOf_eq (by simp [hlen]) fun i items hi hl => by
    rw [List.getElem?_map] at hl
    obtain ⟨it, h1, h2⟩ := Option.map_eq_some_iff.1 hl
    rw [hp.first, ← h2]
    exact hp.rem i it hi h1
  have hw : ∀ x, x < pw0.heap.size → pw.heap[x]? = pw0.heap[x]? := fun x hx => (hp.low x (by omega)).trans (hw0 x hx)
  have hsz : pw0.heap.size ≤ pw.heap.size := Nat.le_trans hs1 hp.size
  have hgr : Grew B0 pw0 B0 pw := ⟨hsz, fun x hx _ => hw x hx, fun x hx => ⟨by have := (hB0 x hx).1; omega, .inl hx⟩, hp.os.trans ho0, hp.output.trans hu0⟩
  have low : ∀ {v : Value} {e n : Nat} {xs : List Value}, pw.ownsRow w0.heap.size e 1 v n xs → ∀ x, B0 x → some x ≠ v.ownBlock := fun ho x hx e => by
    have := (ho.lt x e.symm).1
    have := (hB0 x hx).1
    omega
  refine strLoop2 (σ1 := σ) (pw0 := pw0) (B0 := B0) (s1 := w0.heap.size) (N := N) (c6 := c6) (c7 := c7) hC hPV hN htot hs1 hbp hpicks hpn hbB hpB hp.tag hp.closed hp.n ⟨T.setIfInBounds 10 (.int .i64 ((0 : Nat) : Int)), [], B0, ?_, ?_, ?_, ?_, ?_, ?_, ?_, ⟨rfl, hp.fb, fun _ h => h, fun _ h => .inl h, by omega⟩, ?_, ?_, rfl, ?_, hC.stab B0 [] pw0 pw hI0 (fun x hx => hw x (hB0 x hx).1) hsz, hgr, fun x hx => ⟨low own6 x hx, low own7 x hx, fun e => ?_⟩⟩ fun a' σ' pw' ho => hret σ pw a' σ' pw' hp ho
  · show Act.put ⟨T, _⟩ (some 10) _ = _
    rw [hp.quit, hp.wg]
    rfl
  · simp [hT]
  · rw [Array.getElem?_setIfInBounds_ne (by decide)]; exact t0
  · rw [Array.getElem?_setIfInBounds_ne (by decide)]; exact t2
  · rw [Array.getElem?_setIfInBounds_ne (by decide)]; exact t6
  · rw [Array.getElem?_setIfInBounds_ne (by decide)]; exact t7
  · rw [Array.getElem?_setIfInBounds_self_of_lt (by omega)]
  · rw [hp.first]; exact own6
  · rw [hrem]
    have e : lists.take N = lists := List.take_of_length_le (by omega)
    rw [e] at own7
    unfold OwnI
    rw [lens_length, List.length_map, hlen]
    have e2 : iv (lens (lists.map (·.map prv))) = lists.map fun x => Value.int .i64 x.length := by simp [iv, lens]
    rw [e2]
    exact own7
  · rw [hrem]; exact hAll
  · rcases hp.f1 x e with h | h
    · exact (hB0 x hx).2 h
    · have := (hB0 x hx).1
      omega
theorem bodyTf : Try.f29.body = some bodyT := rfl
set_option maxRecDepth 100000 in
/-- ████ Stream's CLOSURE, FROM ITS ENTRY. ████ -/
theorem strM (hC : Caller Post l r All I J) (hid : Idle σ pw N) (hown : pw.cell? ⟨bo, 0, none⟩ = some (.slice ao N cap)) (hO : OwnAt σ pw ao N lists) (hbp : pw.cell? ⟨bp, 0, none⟩ = some (.slice pa pn pc)) (hpicks : InI pw pa picks) (hpn : picks.length = pn)
    (hAll : All = things (lists.map (·.map prv)) picks 0) (hPV : ∀ q ∈ All, ∃ y : PV, q.2 = prv y) (htot : total (lists.map (·.map prv)) < 4000000000000000000) (hI0 : I B0 [] pw) (hB0 : ∀ x, B0 x → x < pw.heap.size ∧ ¬ σ.F x) (hbB : ¬ B0 bp) (hpB : ∀ ad, pa = some ad → 0 < pn → ¬ B0 ad.block)
    (hn : ∀ σ' B d pw', Idle σ' pw' (σ.room - N) → Later σ pw σ' → ((I B d pw' ∧ d = All) ∨ (J B d pw' ∧ ∃ rest, All = d ++ rest)) → Grew B0 pw B pw' → (∀ x, B x → ¬ σ'.F x) → MV Try.prog wtG zI zS Post σ' (G (c.finish (.tuple #[])) cs) pw') :
    MV Try.prog wtG zI zS Post σ (G (Frame.enter Try.prog 29 #[.func (.yield l) #[] #[], .pointer (some ⟨bo, 0, none⟩), .pointer (some ⟨bp, 0, none⟩)] .normal) (c :: cs)) pw := by
  have he : Frame.enter Try.prog 29 #[.func (.yield l) #[] #[], .pointer (some ⟨bo, 0, none⟩), .pointer (some ⟨bp, 0, none⟩)] .normal = ({ (default : Frame) with fn := 29 } : Frame).atR ⟨#[.func (.yield l) #[] #[], .pointer (some ⟨bo, 0, none⟩), .pointer (some ⟨bp, 0, none⟩)] ++ Array.replicate (Try.f29.ntmps - (#[.func (.yield l) #[] #[], .pointer (some ⟨bo, 0, none⟩), .pointer (some ⟨bp, 0, none⟩)] : Array Value).size) undef, []⟩ [.code bodyT] := by
    simp [Frame.enter, Frame.atR, Try.func29, bodyTf]
    exact ⟨rfl, rfl⟩
  rw [he, ntT, app75]
  have hbo : bo < pw.heap.size := World.block_lt_of_cell? pw _ hown
  have hFl : ∀ b, σ.F b → b < pw.heap.size := fun b hb => (hid.fb b hb).2
  have hO' : OwnAt (σH σ pw.heap.size) (headW Try.prog pw) ao N lists := hO.later (fun x o hx => σH_lay (hid.layb x (by rw [hx]; rfl)) hx) (fun x hx hs => by
    rcases hs with hs | hs
    · exact hs
    · have := hid.layb x hx
      omega) (fun ad _ hl => headW_low hl) (by rw [headW_size]; omega)
  have hlen : lists.length = N := hO.len
  have hgs := hid.gs
  refine strHead ⟨rfl, rfl⟩ (fun e => by cases e) (fun b hb => (hid.fb b hb).1) hid.gs hFl hid.tag hbo hown (fun T hT t0 t1 t2 t4 t5 t6 t7 t17 t18 t19 => mv_wide hid.al ?_)
  refine strLoop1 (fn := fun b => b.fn = 29 ∧ b.roundOf = none) (σ0 := σH σ pw.heap.size) (w0 := headW Try.prog pw) (l := l) (bo := bo) (bp := bp) (cap := cap) (Q := fun e a σ' pw' => e = .normal ∧ MW Try.prog wtG zI zS Post σ' (G (({ (default : Frame) with fn := 29 } : Frame).atR a [.code restT]) (c :: cs)) pw') hO' (fun b hb => ?_) (by rw [headW_size]; omega) (.inl (.inr rfl)) hid.room ⟨T, _, _, rfl, hT, t0, t1, t2, t4, t5, t6, t7, t17, t18, t19, World.ownsRow_nil _ _ _ _, World.ownsRow_nil _ _ _ _, (fun g e => by cases e), (fun g e => by cases e), ?_⟩ (fun a1 σ1 w1 hI1 => ⟨rfl, ?_⟩) _ [.code restT] (c :: cs) ⟨rfl, rfl⟩ (fun e => by cases e) (fun e a' σ' pw' q => by obtain ⟨rfl, h⟩ := q; exact h)
  · rw [headW_size]
    rcases hb with hb | hb
    · have := hFl b (hid.sw b hb)
      omega
    · omega
  · refine ⟨rfl, hid.n, rfl, rfl, rfl, rfl, hid.d0, hid.al, rfl, rfl, fun _ _ h => h, fun i _ hi => absurd hi (by omega), fun _ h => h, fun x hx => ?_, fun x hx => ?_, fun _ _ => rfl, Nat.le_refl _, rfl, rfl, fun _ h => .inl h, fun x hx => .inl (.inl (hid.layF x (σH_layS hx)))⟩
    · rw [headW_size]
      rcases hx with (hx | hx) | hx
      · have := hid.fb x hx
        exact ⟨this.1, by omega⟩
      · exact ⟨by omega, by omega⟩
      · exact ⟨by omega, by omega⟩
    · rw [headW_size]
      have := hid.layb x (σH_layS hx)
      omega
  · refine strRest (fn := fun b => b.fn = 29 ∧ b.roundOf = none) (Q := fun e a σ' pw' => e = .ret ∧ ∀ k', MW Try.prog wtG zI zS Post σ' (G (outF 29 a k') (c :: cs)) pw') (pw0 := pw) (B0 := B0) (lists := lists) hC hPV hO.small (by rw [hAll, things_len]; exact htot) hbp hpicks hpn hbB hpB hlen hAll (by rw [headW_size]; omega) hgs (fun x hx => headW_low hx) rfl rfl hI0 (fun x hx => ⟨(hB0 x hx).1, fun h => ?_⟩) hI1 (fun σ2 w2 a' σ' pw' hp ho => ⟨rfl, fun k' => ?_⟩) _ [] (c :: cs) ⟨rfl, rfl⟩ (fun e => by cases e) (fun e a' σ' pw' q => by obtain ⟨rfl, h⟩ := q; intro k'; exact mw_ret rfl (h k'))
    · have h1 := (hB0 x hx).1
      rcases h with (h | h) | h
      · exact (hB0 x hx).2 h
      · omega
      · omega
    · obtain ⟨hd, d, B, hp2, hIJ, hgr, hBF⟩ := ho
      obtain ⟨ρ, FX, rfl⟩ : ∃ ρ F, σ' = { σ2 with rem := ρ, F := F } := ⟨_, _, hp2.same⟩
      refine strOut (σ := { σ2 with rem := ρ, F := FX }) (ats := #[58]) Try.func29 rfl (by kernel_rfl) hd hp.tag hp.d0 hp.closed (hp2.f0 _ (hp.f0 _ (by rw [hp.quit]; exact .inr rfl))) (hp2.f0 _ (hp.f0 _ (by rw [hp.wg]; exact .inl (.inr rfl)))) (fun vb => ?_) k'
      have hsz := hgr.size
      have hBl : ∀ x, B x → x < pw'.heap.size := fun x hx => (hgr.own x hx).1
      refine mw_idle rfl rfl (mw_narrow rfl hp.al fun κ => hn _ B d (grW Try.prog pw' κ) ⟨rfl, rfl, rfl, fun x hx => ?_, fun x hx => ?_, fun x hx => .inl (hp2.f0 x (hp.layF x hx)), by rw [grW_size]; omega, ?_, hp.al⟩ ⟨fun x hx => .inl (hp2.f0 x (hp.f0 x (.inl (.inl hx)))), fun x hx => ?_, fun x o hx => hp.lay x o (σH_lay (hid.layb x (by rw [hx]; rfl)) hx), fun x hx => ?_⟩ ?_ (hgr.step (by rw [grW_size]; omega) (fun x hx => grW_low (by omega)) rfl rfl) (fun x hx => ?_))
      · rw [grW_size]
        rcases hx with hx | hx
        · have := hp2.fb x hx
          exact ⟨this.1, by omega⟩
        · have h1 : pw'.heap.size ≤ x := hx.1
          exact ⟨by omega, hx.2⟩
      · have hx' : σ2.SW x := hx
        rw [hp.sw] at hx'
        exact .inl (hp2.f0 x (hp.f0 x (hx'.elim (fun h => .inl (.inl (hid.sw x h))) fun h => .inl (.inr h))))
      · have h1 := hp.room
        show σ.room - N ≤ σ2.room
        have h2 : (σH σ pw.heap.size).room = σ.room := rfl
        omega
      · rcases hx with hx | hx
        · rcases hp2.f1 x hx with h | h
          · rcases hp.f1 x h with h | h
            · rcases h with (h | h) | h
              · exact .inl h
              · exact .inr (by omega)
              · exact .inr (by omega)
            · rw [headW_size] at h
              exact .inr (by omega)
          · exact .inr h
        · have h1 : pw'.heap.size ≤ x := hx.1
          exact .inr (by omega)
      · have hx' : σ2.SW x := hx
        rw [hp.sw] at hx'
        rcases hx' with h | h
        · exact .inl h
        · exact .inr (by omega)
      · refine hIJ.imp (fun ⟨h1, h2⟩ => ⟨hC.stab _ _ _ _ h1 (fun x hx => grW_low (hBl x hx)) (by rw [grW_size]; omega), h2⟩) fun ⟨h1, h2⟩ => ⟨hC.stabJ _ _ _ _ h1 (fun x hx => grW_low (hBl x hx)) (by rw [grW_size]; omega), h2⟩
      · intro h
        rcases h with h | h
        · exact hBF x hx h
        · have h1 : pw'.heap.size ≤ x := h.1
          have := hBl x hx
          omega
end
end Go.Proofs.Ytmllcfkgkkbkpaa.Pr
/-
  A RANGE OVER Stream's CLOSURE, pairs.
-/
namespace Go.Proofs.Ytmllcfkgkkbkpaa.Pr
open Go Go.Conc Go.RowKit Go.Conc.Lib Go.ConcR.Gen
open Go.ConcN (upd upd_ne upd_same WgLive)
open Go.ConcR (KK wgBlock WgAt stA smA rd wr mk DC0)
section
variable {Post : Value → World → Prop} {σ : Ph} {pw : World} {Q : Exit → Act → Ph → World → Prop} {fn : Frame → Prop} {bo bp N pn pc cap f0 idx : Nat} {pa ao : Option Addr} {picks : List Int} {All : List (Nat × Value)} {B0 : Nat → Prop} {Iu Ju : (Nat → Prop) → List (Nat × Value) → World → Prop} {a : Act} {lists : List (List PV)} {gop : Operand} {ps : Array Tmp} {assign body : Code}
variable (Post) in
/-- What a round is to do. -/
def RoundOk (f0 l idx : Nat) (All : List (Nat × Value)) (Iu Ju : (Nat → Prop) → List (Nat × Value) → World → Prop) (T : Array Value) (ps : Array Tmp) (assign body : Code) : Prop :=
  ∀ B d (i : Nat) v rest (σ : Ph) pw, All = d ++ (i, v) :: rest → Iu B d pw → (∀ x, B x → x < pw.heap.size ∧ ¬ σ.F x) → (∀ x, σ.F x → Try.prog.globals.size ≤ x ∧ x < pw.heap.size) → Try.prog.globals.size ≤ pw.heap.size → l < pw.heap.size →
    wpW Try.prog wtG zI zS Post (rfn f0 l) assign (fun e a2 σ2 pw2 => e = .normal ∧ Gw σ pw σ2 pw2 ∧ ∀ pw3, Iu B d pw3 → pw3.heap.size = pw2.heap.size → (∀ x, x ≠ l → pw3.heap[x]? = pw2.heap[x]?) →
      wpW Try.prog wtG zI zS Post (rfn f0 l) body (fun e _a3 σ3 pw4 => (e = .normal ∧ ∃ B', Iu B' (d ++ [(i, v)]) pw4 ∧ Gc σ2 B pw3 σ3 B' pw4) ∨ (e = .exit idx ∧ ∃ B', Ju B' (d ++ [(i, v)]) pw4 ∧ Gc σ2 B pw3 σ3 B' pw4)) a2 σ2 pw3) ⟨(ps.zip #[Value.int .i64 i, v]).foldl (fun tmps (t, a) => tmps.setIfInBounds t a) T, []⟩ σ pw
theorem caller_of {l : Nat} {r : Loop} (hs : r.state = .ready) (hpd : r.pending = none) (hfn : r.fn = f0) (hps : r.params.size = 2) (hI : Stable Iu) (hJ : Stable Ju) (hR : RoundOk Post f0 l idx All Iu Ju r.tmps r.params r.assign r.body) :
    Caller Post l r All (FI l r Iu) (FI l { r with state := .done, pending := some (.exit idx) } Ju) := by
  refine ⟨FI.stab hI, FI.stab hJ, fun B d w h => ?_, hps, ?_⟩
  · obtain ⟨Bu, h1, _, _, h4⟩ := h
    exact ⟨(h1 l).2 (.inr rfl), h4⟩
  · rintro B d i v rest σ pw base cs hAll ⟨Bu, hB, hl, hIu, hrec⟩ hBF hF hgs htag ht hf
    have hlB := hBF l ((hB l).2 (.inr rfl))
    have hBu : ∀ x, Bu x → x < pw.heap.size ∧ ¬ σ.F x := fun x hx => hBF x ((hB x).2 (.inl hx))
    let bf : Frame := { (default : Frame) with fn := r.fn, roundOf := some l, kind := .normal }
    have he : Frame.round l r.fn ((r.params.zip #[Value.int .i64 i, v]).foldl (fun tmps (t, a) => tmps.setIfInBounds t a) r.tmps) r.assign r.body .normal = bf.atR ⟨(r.params.zip #[Value.int .i64 i, v]).foldl (fun tmps (t, a) => tmps.setIfInBounds t a) r.tmps, []⟩ [.code r.assign, .beginRound, .code r.body] := rfl
    rw [he]
    have hbf : rfn f0 l bf := ⟨hfn, rfl, rfl⟩
    refine hR Bu d i v rest σ pw hAll hIu hBu hF hgs hlB.1 bf [.beginRound, .code r.body] (base :: cs) hbf (fun e => by cases e) fun e a2 σ2 pw2 hq => ?_
    obtain ⟨rfl, g2, hb⟩ := hq
    have hsz2 := g2.size
    have hl2 : ¬ σ2.F l := g2.nF hlB.2 hlB.1
    show MW _ _ _ _ _ σ2 (G (bf.atR a2 [.beginRound, .code r.body]) (base :: cs)) pw2
    refine mw_beginRound rfl (fun e => by cases e) hl2 (g2.at hrec) hs ?_
    have hbusy : (pw2.putObj l (.loop { r with state := .busy })).heap[l]? = some (.loop { r with state := .busy }) := putObj_self (by omega)
    have hsz : (pw2.putObj l (.loop { r with state := .busy })).heap.size = pw2.heap.size := putObj_os.2.2
    have hoth : ∀ x, x ≠ l → (pw2.putObj l (.loop { r with state := .busy })).heap[x]? = pw2.heap[x]? := fun x hx => putObj_ne hx
    have hIb := hI Bu d pw (pw2.putObj l (.loop { r with state := .busy })) hIu (fun x hx => (hoth x fun e => hl (e ▸ hx)).trans (g2.low x (hBu x hx).1)) (by omega)
    have hosb : (pw2.putObj l (.loop { r with state := .busy })).os = pw2.os ∧ (pw2.putObj l (.loop { r with state := .busy })).output = pw2.output := ⟨rfl, rfl⟩
    refine hb _ hIb hsz hoth bf [] (base :: cs) hbf (fun e => by cases e) fun e a3 σ3 pw3 hq => ?_
    have fin : ∀ (K : (Nat → Prop) → List (Nat × Value) → World → Prop) (r' : Loop) (B' : Nat → Prop), Stable K → K B' (d ++ [(i, v)]) pw3 → Gc σ2 Bu (pw2.putObj l (.loop { r with state := .busy })) σ3 B' pw3 →
        pw3.heap[l]? = some (.loop { r with state := .busy }) ∧ ¬ σ3.F l ∧ FI l r' K (fun x => B' x ∨ x = l) (d ++ [(i, v)]) (pw3.putObj l (.loop r')) ∧ Gc σ B pw σ3 (fun x => B' x ∨ x = l) (pw3.putObj l (.loop r')) := fun K r' B' hK hK' g3 => by
      have hgr := g3.gr
      have h3 : pw3.heap[l]? = some (.loop { r with state := .busy }) := (hgr.low l (by omega) hl).trans hbusy
      have hl3 : l < pw3.heap.size := (Array.getElem?_eq_some_iff.1 h3).1
      have hB'l : ¬ B' l := fun h => by
        rcases (hgr.own l h).2 with h | h
        · exact hl h
        · omega
      have hFl3 : ¬ σ3.F l := fun h => (g3.f1 l h).elim hl2 fun k => by omega
      have hsz3 := hgr.size
      refine ⟨h3, hFl3, ⟨B', fun x => Iff.rfl, hB'l, hK _ _ _ _ hK' (fun x hx => putObj_ne fun e => hB'l (e ▸ hx)) (by rw [putObj_os.2.2]; exact Nat.le_refl _), putObj_self hl3⟩, ?_, fun x hx => g3.f0 x (g2.f0 x hx), fun x hx => ?_, ⟨?_, fun x hx hnB => ?_, fun x hx => ?_, (hgr.os.trans hosb.1).trans g2.os, (hgr.output.trans hosb.2).trans g2.output⟩, fun x hx => ?_⟩
      · rw [g3.same, g2.same]
      · rw [putObj_os.2.2]
        rcases g3.f1 x hx with y | y
        · rcases g2.f1 x y with y | y
          · exact .inl y
          · exact .inr ⟨y.1, by omega⟩
        · exact .inr ⟨by omega, y.2⟩
      · rw [putObj_os.2.2]
        omega
      · have hxl : x ≠ l := fun e => hnB ((hB x).2 (.inr e))
        rw [putObj_ne hxl, hgr.low x (by omega) fun h => hnB ((hB x).2 (.inl h)), hoth x hxl]
        exact g2.low x hx
      · rw [putObj_os.2.2]
        rcases hx with hx | rfl
        · obtain ⟨h5, h6⟩ := hgr.own x hx
          refine ⟨h5, h6.imp (fun h => (hB x).2 (.inl h)) fun h => by omega⟩
        · exact ⟨hl3, .inl ((hB x).2 (.inr rfl))⟩
      · rcases hx with hx | rfl
        · exact g3.nF x hx
        · exact hFl3
    rcases hq with ⟨rfl, B', hI', g3⟩ | ⟨rfl, B', hJ', g3⟩
    · obtain ⟨h3, hF3, h4, h5⟩ := fin Iu { r with state := .ready, pending := none } B' hI hI' g3
      show MW _ _ _ _ _ σ3 (G (bf.atR a3 []) (base :: cs)) pw3
      refine mw_endRound rfl rfl hF3 h3 ?_
      have e : ({ r with state := .ready, pending := none } : Loop) = r := by
        obtain ⟨s, p, _, _, _, _, _, _⟩ := r
        simp only at hs hpd
        subst hs hpd
        rfl
      have e2 : ({ ({ r with state := .busy } : Loop) with state := .ready, pending := none } : Loop) = { r with state := .ready, pending := none } := rfl
      rw [e2]
      rw [e] at h4 h5 ⊢
      exact ht _ _ _ h4 h5
    · obtain ⟨h3, hF3, h4, h5⟩ := fin Ju { r with state := .done, pending := some (.exit idx) } B' hJ hJ' g3
      show AfterW _ _ _ _ _ _ _ _ _ _ _ _
      dsimp only [AfterW, exitTo]
      intro k' hk'
      refine mw_exitRound rfl rfl hk' hF3 h3 ?_
      exact hf _ _ _ h4 h5
theorem nmStr1 : (Try.f29.name == "runtime.NumGoroutine") = false := by kernel_rfl
def dRange (bo bp l : Nat) : Deferred := { target := .fn (.func 29) #[.pointer (some ⟨bo, 0, none⟩), .pointer (some ⟨bp, 0, none⟩)], args := #[.func (.yield l) #[] #[]] }
theorem res_range (hg : a.eval gop = .func (.func 29) #[] #[.pointer (some ⟨bo, 0, none⟩), .pointer (some ⟨bp, 0, none⟩)]) (l : Nat) (w : World) :
    (resolve a.eval (rangeCall gop l) 0).run Try.prog w = .ok (dRange bo bp l) w ∧ (resolve a.eval (rangeCall gop l) 0).events Try.prog w #[] = #[] := by
  have hv : a.eval (.const (.func (.yield l) #[] #[])) = .func (.yield l) #[] #[] := rfl
  generalize a.eval = ev at hg hv
  constructor <;> simp [resolve, hg, hv, Deferred.ofValue, dRange, go_sem]
theorem inv_range (l : Nat) (w : World) : (invoke (dRange bo bp l).target (dRange bo bp l).args).run Try.prog w = .ok (.enter 29 #[.func (.yield l) #[] #[], .pointer (some ⟨bo, 0, none⟩), .pointer (some ⟨bp, 0, none⟩)]) w ∧ (invoke (dRange bo bp l).target (dRange bo bp l).args).events Try.prog w #[] = #[] := by
  have h1 : ¬ Try.f29.name = "runtime.NumGoroutine" := by simpa using nmStr1
  have hb : Try.f29.body = some bodyT := bodyTf
  constructor <;> simp [dRange, invoke, callFunc, Try.func29, h1, hb, go_sem]
abbrev markD (s : Nat) : Deferred := { target := .collected s, args := #[] }
/-- ████ A RANGE OVER Stream's CLOSURE. ████ -/
theorem wpM_range (hfn : ∀ b, fn b → b.roundOf = none ∧ b.fn = f0) (hg : a.eval gop = .func (.func 29) #[] #[.pointer (some ⟨bo, 0, none⟩), .pointer (some ⟨bp, 0, none⟩)]) (hps : ps.size = 2)
    (hid : Idle σ pw N) (hown : pw.cell? ⟨bo, 0, none⟩ = some (.slice ao N cap)) (hO : OwnAt σ pw ao N lists) (hbp : pw.cell? ⟨bp, 0, none⟩ = some (.slice pa pn pc)) (hpicks : InI pw pa picks) (hpn : picks.length = pn)
    (hAll : All = things (lists.map (·.map prv)) picks 0) (hPV : ∀ q ∈ All, ∃ y : PV, q.2 = prv y) (htot : total (lists.map (·.map prv)) < 4000000000000000000) (hI : Stable Iu) (hJ : Stable Ju) (hI0 : Iu B0 [] pw) (hB0 : ∀ x, B0 x → x < pw.heap.size ∧ ¬ σ.F x) (hbB : ¬ B0 bp) (hpB : ∀ ad, pa = some ad → 0 < pn → ¬ B0 ad.block)
    (hR : RoundOk Post f0 (pw.heap.size + 1) idx All Iu Ju a.tmps ps assign body)
    (hn : ∀ σ' B pw', Idle σ' pw' (σ.room - N) → Later σ pw σ' → Grew B0 pw B pw' → (∀ x, B x → ¬ σ'.F x) → Iu B All pw' → pw'.heap[pw.heap.size]? = some (.deferred (some [])) → ¬ σ'.F pw.heap.size → ¬ B pw.heap.size → Q .normal ⟨a.tmps, markD pw.heap.size :: a.defers⟩ σ' pw')
    (hx : ∀ σ' B d rest pw', Idle σ' pw' (σ.room - N) → Later σ pw σ' → Grew B0 pw B pw' → (∀ x, B x → ¬ σ'.F x) → Ju B d pw' → All = d ++ rest → pw'.heap[pw.heap.size]? = some (.deferred (some [])) → ¬ σ'.F pw.heap.size → ¬ B pw.heap.size → Q (.exit idx) ⟨a.tmps, markD pw.heap.size :: a.defers⟩ σ' pw') :
    wpM Try.prog wtG zI zS Post fn (.rangeFunc gop ps assign body) Q a σ pw := by
  intro b k cs hb hk hq
  obtain ⟨hro, hfb⟩ := hfn b hb
  refine mv_rangeFunc hro hk (fun l w => res_range hg l w) (fun l w => inv_range l w) ?_
  let r : Loop := { state := .ready, pending := none, fn := b.fn, tmps := a.tmps, params := ps, assign := assign, body := body, defers := pw.heap.size }
  let s := pw.heap.size
  let w2 := (pw.alloc (.deferred (some []))).alloc (.loop r)
  have hs2 : w2.heap.size = s + 2 := by simp only [w2, World.size_alloc]; rfl
  have hlow : ∀ x, x < s → w2.heap[x]? = pw.heap[x]? := fun x hx => by
    show ((pw.alloc (.deferred (some []))).alloc (.loop r)).heap[x]? = _
    rw [alloc_other (by simp only [World.size_alloc]; omega), alloc_other hx]
  have hd2 : w2.heap[s]? = some (.deferred (some [])) := by
    show ((pw.alloc (.deferred (some []))).alloc (.loop r)).heap[s]? = _
    rw [alloc_other (by simp only [World.size_alloc]; omega)]
    exact alloc_self
  have hl2 : w2.heap[s + 1]? = some (.loop r) := by
    have : s + 1 = (pw.alloc (.deferred (some []))).heap.size := by simp only [World.size_alloc]; rfl
    rw [this]
    exact alloc_self
  have hbl : bp < s := World.block_lt_of_cell? pw _ hbp
  have hbol : bo < s := World.block_lt_of_cell? pw _ hown
  have cellk : ∀ {x v}, pw.cell? ⟨x, 0, none⟩ = some v → w2.cell? ⟨x, 0, none⟩ = some v := fun {x v} h => (World.cell?_of_block (hlow _ (World.block_lt_of_cell? pw _ h))).trans h
  have hC := caller_of (Post := Post) (f0 := f0) (idx := idx) (All := All) (Iu := Iu) (Ju := Ju) (l := s + 1) (r := r) rfl rfl hfb hps hI hJ hR
  have hnF : ∀ x, s ≤ x → ¬ σ.F x := fun x hx h => by have := (hid.fb x h).2; omega
  have fin : ∀ (σ' : Ph) (B : Nat → Prop) (pw' : World) (K : (Nat → Prop) → List (Nat × Value) → World → Prop) (r' : Loop) (d : List (Nat × Value)), Stable K → FI (s + 1) r' K B d pw' → Later σ w2 σ' → Grew (fun x => B0 x ∨ x = s + 1) w2 B pw' → (∀ x, B x → ¬ σ'.F x) → Idle σ' pw' (σ.room - N) →
      ∃ Bu, ¬ σ'.F (s + 1) ∧ pw'.heap[s + 1]? = some (.loop r') ∧ ∀ r2, Idle σ' (pw'.putObj (s + 1) (.loop r2)) (σ.room - N) ∧ Later σ pw σ' ∧ Grew B0 pw Bu (pw'.putObj (s + 1) (.loop r2)) ∧ (∀ x, Bu x → ¬ σ'.F x) ∧ K Bu d (pw'.putObj (s + 1) (.loop r2)) ∧ (pw'.putObj (s + 1) (.loop r2)).heap[s]? = some (.deferred (some [])) ∧ ¬ σ'.F s ∧ ¬ Bu s := by
    rintro σ' B pw' K r' d hK ⟨Bu, hB, hl, hKu, hrec⟩ hlat hgr hBF hid'
    have hnF' : ∀ x, s ≤ x → x < s + 2 → ¬ σ'.F x := fun x hx hx2 h => by
      rcases hlat.f' x h with h | h
      · exact hnF x hx h
      · omega
    have hnB : ¬ Bu s := fun h => by
      rcases (hgr.own s ((hB s).2 (.inl h))).2 with h | h
      · rcases h with h | h
        · have := (hB0 s h).1
          exact absurd this (by show ¬ s < s; omega)
        · omega
      · omega
    refine ⟨Bu, hnF' _ (by omega) (by omega), hrec, fun r2 => ⟨hid'.grow (by rw [putObj_os.2.2]; exact Nat.le_refl _), ⟨hlat.f, fun x hx => (hlat.f' x hx).imp id fun h => by show s ≤ x; omega, hlat.lay, fun x hx => (hlat.sw x hx).imp id fun h => by show s ≤ x; omega⟩,
      ⟨?_, fun x hx hnb => ?_, fun x hx => ?_, hgr.os, hgr.output⟩, fun x hx => hBF x ((hB x).2 (.inl hx)), hK _ _ _ _ hKu (fun x hx => putObj_ne fun e => hl (e ▸ hx)) (by rw [putObj_os.2.2]; exact Nat.le_refl _), ?_, hnF' _ (by omega) (by omega), hnB⟩⟩
    · rw [putObj_os.2.2]
      have := hgr.size
      show s ≤ _
      omega
    · have hx' : x < s := hx
      rw [putObj_ne (by omega), hgr.low x (by omega) (fun h => h.elim hnb fun e => by omega), hlow x hx']
    · rw [putObj_os.2.2]
      obtain ⟨h1, h2⟩ := hgr.own x ((hB x).2 (.inl hx))
      refine ⟨h1, ?_⟩
      rcases h2 with (h2 | h2) | h2
      · exact .inl h2
      · exact .inr (by show s ≤ x; omega)
      · exact .inr (by show s ≤ x; omega)
    · rw [putObj_ne (by omega), hgr.low s (by omega) (fun h => h.elim (fun h => by have := (hB0 s h).1; exact absurd this (by show ¬ s < s; omega)) fun e => by omega)]
      exact hd2
  refine strM (lists := lists) (ao := ao) (cap := cap) (picks := picks) (pn := pn) (B0 := fun x => B0 x ∨ x = s + 1) hC (hid.grow (by show s ≤ w2.heap.size; omega)) (cellk hown) (hO.later (fun _ _ h => h) (fun _ _ h => h) (fun ad _ h => hlow _ h) (by show s ≤ w2.heap.size; omega)) (cellk hbp) (InV.keep hpicks fun ad h1 h2 => hlow _ (hpicks.low ad h1 h2)) hpn hAll hPV htot ⟨B0, fun x => Iff.rfl, fun h => by have := (hB0 _ h).1; exact absurd this (by show ¬ s + 1 < s; omega), hI _ _ _ _ hI0 (fun x hx => hlow x (hB0 x hx).1) (by show s ≤ w2.heap.size; omega), hl2⟩
    (fun x hx => ?_) (fun h => h.elim hbB fun e => by omega) (fun ad h1 h2 h => h.elim (hpB ad h1 h2) fun e => ?_) (fun σ' B d pw' hid' hlat hIJ hgr hBF => ?_)
  · rcases hx with hx | rfl
    · exact ⟨by have := (hB0 x hx).1; show x < w2.heap.size; omega, (hB0 x hx).2⟩
    · exact ⟨by show s + 1 < w2.heap.size; omega, hnF _ (by omega)⟩
  · have := hpicks.low ad h1 (by rw [iv_length]; omega)
    omega
  · show MV _ _ _ _ _ σ' (G (b.atR ⟨a.tmps, markD s :: a.defers⟩ (.endRangeFunc (s + 1) :: k)) cs) pw'
    rcases hIJ with ⟨hIe, rfl⟩ | ⟨hJe, rest, hrest⟩
    · obtain ⟨Bu, hF1, hrec, hall⟩ := fin σ' B pw' Iu r d hI hIe hlat hgr hBF hid'
      obtain ⟨h1, h2, h3, h4, h5, h6, h7, h8⟩ := hall { r with state := .exhausted }
      refine mv_endRange hF1 hrec (by intro e; cases e) ?_
      exact hq _ _ _ _ (hn σ' Bu _ h1 h2 h3 h4 h5 h6 h7 h8)
    · obtain ⟨Bu, hF1, hrec, hall⟩ := fin σ' B pw' Ju _ d hJ hJe hlat hgr hBF hid'
      obtain ⟨h1, h2, h3, h4, h5, h6, h7, h8⟩ := hall { ({ r with state := .done, pending := some (.exit idx) } : Loop) with state := .exhausted }
      refine mv_endRange hF1 hrec (by intro e; cases e) ?_
      exact (wpM_exit (fn := fn) (Q := Q) (hx σ' Bu d rest _ h1 h2 h3 h4 h5 hrest h6 h7 h8)) b k cs hb hk hq
end
end Go.Proofs.Ytmllcfkgkkbkpaa.Pr
/-
  THE CLONES of pairs STAND STILL FROM NOW ON.
-/
namespace Go.Proofs.Ytmllcfkgkkbkpaa.Pr
open Go Go.Conc Go.RowKit Go.Conc.Lib Go.ConcR.Gen
open Go.ConcN (upd upd_ne upd_same WgLive)
open Go.ConcR (KK wgBlock WgAt stA smA rd wr mk DC0)
theorem StreamAt.keep {w w' : World} {base base1 bo bp g : Nat} {pa : Option Addr} {pc : Nat} {L : List (List PV)} {picks : List Int} (h : StreamAt w base base1 bo bp g pa pc L picks) (hk : ∀ x, base ≤ x → x < w.heap.size → w'.heap[x]? = w.heap[x]?) (hs : w.heap.size ≤ w'.heap.size) : StreamAt w' base base1 bo bp g pa pc L picks := by
  obtain ⟨h1, ⟨hs0, h2, h3⟩, h4, h5, h6, h7, h8⟩ := h
  have own : ∀ {b e z n : Nat} {v : Value} {xs : List Value}, base ≤ b → w.ownsRow b e z v n xs → w'.ownsRow b e z v n xs := fun hb ho => owns_keep ho fun g hg e => hk g (by have := (World.ownsRow.lt ho g e).1; omega) hg
  refine ⟨(World.cell?_of_block (hk _ (by show base ≤ bo; omega) (by show bo < _; omega))).trans h1, ⟨hs0, own (Nat.le_refl _) h2, fun i l hi => ?_⟩, (World.cell?_of_block (hk _ (by show base ≤ bp; omega) (by show bp < _; omega))).trans h4, own (Nat.le_refl _) h5, h6, ⟨h7.1, h7.2.1, h7.2.2.1, by omega⟩, h8⟩
  obtain ⟨v, h9, h10⟩ := h3 i l hi
  exact ⟨v, h9, own (by omega) h10⟩
/-- A row of the call's own, standing still. -/
theorem itemsAt_own {σ : Ph} {w : World} {base n c : Nat} {q : Option Addr} {l : List PV} (h : OwnP w base (.slice q n c) l) (hn : l.length = n) (hs : n < 1000000000000) (hlay : ∀ ad, q = some ad → 0 < n → σ.lay ad.block = w.heap[ad.block]? ∧ ¬ σ.SW ad.block) : ItemsAt σ q n l := by
  refine ⟨hn, hs, fun e => ?_, fun ad e => ?_, fun b o e h0 => ?_⟩
  · rcases h.2 with ⟨h1, h2⟩ | ⟨g, cap, cur, h1, _⟩
    · rw [← hn, h2]
    · rw [e] at h1; cases h1
  · subst e
    rcases h.2 with ⟨h1, _⟩ | ⟨g, cap, cur, h1, _⟩
    · cases h1
    · simp only [Value.slice.injEq, Option.some.injEq] at h1
      obtain ⟨rfl, _, rfl⟩ := h1
      exact ⟨_, _, rfl⟩
  · subst e
    obtain ⟨h3, h4⟩ := hlay _ rfl h0
    rcases h.2 with ⟨h1, _⟩ | ⟨g, cap, cur, h1, hb, hg, hnc, hcm, hcs, ht⟩
    · cases h1
    · simp only [Value.slice.injEq, Option.some.injEq, Addr.mk.injEq] at h1
      obtain ⟨⟨rfl, rfl, _⟩, _, rfl⟩ := h1
      refine ⟨_, h3.trans hg, h4, fun w' i v hw hv => ?_⟩
      obtain ⟨hil, rfl⟩ := List.getElem?_eq_some_iff.1 hv
      obtain ⟨g1, g2⟩ := pc_get l i hil
      have hl := pc_length l
      have key : ∀ j u, (pc l)[j]? = some u → w'.cell? ⟨b, 0 + j, none⟩ = some u := fun j u hu => by
        have hj := (List.getElem?_eq_some_iff.1 hu).1
        rw [cell_of_row _ _ _ _ _ _ hw, Nat.zero_add, ← Array.getElem?_toList]
        rw [← ht, List.getElem?_take_of_lt (by omega)] at hu
        exact hu
      exact ⟨key _ _ g1, key _ _ g2⟩
section
variable {Post : Value → World → Prop} {σ : Ph} {pw : World} {Q : Exit → Act → Ph → World → Prop} {fn : Frame → Prop} {a : Act} {c : Code}
/-- ████ Stream's clones are frozen. ████ -/
theorem wpM_frozen {base base1 bo bp g room pc : Nat} {pa : Option Addr} {L : List (List PV)} {picks : List Int} (hSt : StreamAt pw base base1 bo bp g pa pc L picks) (hid : Idle σ pw room) (hFb : ∀ x, σ.F x → x < base) (hgb : Try.prog.globals.size ≤ base) (hl : ∀ l ∈ L, l.length < 1000000000000) (hN : L.length < 1000000)
    (h : ∀ σ' pw', Idle σ' pw' room → σ'.room = σ.room → (∀ w0 : World, w0.heap.size ≤ base1 → Later σ w0 σ') → OwnAt σ' pw' (some ⟨g, 0, none⟩) L.length L → pw'.heap.size = pw.heap.size → (∀ x, x < base1 → pw'.heap[x]? = pw.heap[x]?) → pw'.os = pw.os → pw'.output = pw.output → wpM Try.prog wtG zI zS Post fn c Q a σ' pw') :
    wpM Try.prog wtG zI zS Post fn c Q a σ pw := by
  intro b k cs hb hk hq
  obtain ⟨hs0, hrow, hit⟩ := hSt.row
  have hlen : hs0.length = L.length := by have := hrow.1; omega
  have hblk : ∀ x ∈ hs0.filterMap Value.ownBlock, ∃ (i : Nat) (l : List PV) (v : Value), L[i]? = some l ∧ hs0[i]? = some v ∧ OwnP pw base1 v l ∧ v.ownBlock = some x := fun x hx => by
    obtain ⟨v, hv, hx⟩ := List.mem_filterMap.1 hx
    obtain ⟨i, hi, rfl⟩ := List.mem_iff_getElem.1 hv
    have hiL : i < L.length := by omega
    obtain ⟨v', h1, h2⟩ := hit i _ (List.getElem?_eq_getElem hiL)
    rw [List.getElem?_eq_getElem hi] at h1
    cases h1
    exact ⟨i, _, _, List.getElem?_eq_getElem hiL, List.getElem?_eq_getElem hi, h2, hx⟩
  have hge : ∀ x ∈ hs0.filterMap Value.ownBlock, base1 ≤ x ∧ x < pw.heap.size := fun x hx => by
    obtain ⟨i, l, v, _, _, h3, h4⟩ := hblk x hx
    exact World.ownsRow.lt h3 x h4
  have hlo := hSt.lo
  have hhi := hSt.hi
  refine mv_freezeAll (hs0.filterMap Value.ownBlock) σ pw (fun x hx => ⟨fun hF => ?_, ?_⟩) fun σ' pw' hf => ?_
  · have := hFb x hF
    have := (hge x hx).1
    omega
  · obtain ⟨i, l, v, _, _, h3, h4⟩ := hblk x hx
    rcases h3.2 with ⟨h1, _⟩ | ⟨g1, cap, cur, rfl, _, hg, _⟩
    · rw [h1] at h4; cases h4
    · have : g1 = x := by simpa [Value.ownBlock] using h4
      subst this
      exact ⟨_, hg, rfl⟩
  · have hsm := hf.same
    have low : ∀ x, x < base1 → pw'.heap[x]? = pw.heap[x]? := fun x hx => hf.heap x fun h => by have := (hge x h).1; omega
    have eSW : σ'.SW = σ.SW := by rw [hsm]
    have eroom : σ'.room = σ.room := by rw [hsm]
    have hlay0 : ∀ x o, σ.lay x = some o → σ'.lay x = some o := fun x o hx => by
      rw [hf.lay x, if_neg fun h => ?_]
      · exact hx
      · have h1 := hFb x (hid.layF x (by rw [hx]; rfl))
        have h2 := (hge x h).1
        omega
    refine h σ' pw' ⟨by rw [hsm]; exact hid.tag, by rw [hsm]; exact hid.n, by rw [hsm]; exact hid.d0, fun x hx => ?_, fun x hx => ?_, fun x hx => ?_, by rw [hf.size]; exact hid.gs, by rw [eroom]; exact hid.room, by rw [hsm]; exact hid.al⟩ eroom (fun w0 hw0 => ⟨fun x hx => (hf.F x).2 (.inl hx), fun x hx => ?_, hlay0, fun x hx => .inl (by rw [← eSW]; exact hx)⟩) ⟨rfl, hN, fun i items hi => ?_⟩ hf.size low hf.os hf.output b k cs hb hk hq
    · rw [hf.size]
      rcases (hf.F x).1 hx with h | h
      · exact hid.fb x h
      · have h2 := hge x h
        exact ⟨by omega, h2.2⟩
    · rw [eSW] at hx
      exact (hf.F x).2 (.inl (hid.sw x hx))
    · rw [hf.lay x] at hx
      by_cases hin : x ∈ hs0.filterMap Value.ownBlock
      · exact (hf.F x).2 (.inr hin)
      · rw [if_neg hin] at hx
        exact (hf.F x).2 (.inl (hid.layF x hx))
    · rcases (hf.F x).1 hx with h | h
      · exact .inl h
      · have := (hge x h).1
        exact .inr (by omega)
    · obtain ⟨l, hli, rfl⟩ : ∃ l, L[i]? = some l ∧ l = items := ⟨_, hi, rfl⟩
      obtain ⟨v, h1, h2⟩ := hit i l hli
      have hiL := (List.getElem?_eq_some_iff.1 hli).1
      obtain ⟨q, c1, rfl, _, _, _, hq0⟩ := h2.shape rfl
      refine ⟨⟨g, 0, none⟩, q, l.length, c1, rfl, by rw [hf.size]; show g < _; omega, ?_, itemsAt_own h2 rfl (hl l (List.mem_of_getElem? hli)) fun ad e h0 => ?_⟩
      · have hb : pw'.heap[((⟨g, 0, none⟩ : Addr).add i).block]? = pw.heap[((⟨g, 0, none⟩ : Addr).add i).block]? := by
          rw [add_blk]
          exact low g (by omega)
        exact (World.cell?_of_block hb).trans (World.ownsRow.cells hrow (g := g) rfl i _ h1)
      · obtain ⟨e1, e2, e3, e4⟩ := hq0 ad e
        have hin : ad.block ∈ hs0.filterMap Value.ownBlock := List.mem_filterMap.2 ⟨_, List.mem_of_getElem? h1, by
          subst e
          obtain ⟨x, y, z0⟩ := ad
          simp only at e3 e4
          subst e3 e4
          rfl⟩
        refine ⟨by rw [hf.lay, if_pos hin], fun hsw => ?_⟩
        rw [eSW] at hsw
        have := hFb _ (hid.sw _ hsw)
        omega
end
end Go.Proofs.Ytmllcfkgkkbkpaa.Pr
/-
  Merge OF pairs.
-/
namespace Go.Proofs.Ytmllcfkgkkbkpaa.Pr
open Go Go.Conc Go.RowKit Go.Conc.Lib Go.ConcR.Gen
open Go.ConcN (upd upd_ne upd_same WgLive)
open Go.ConcR (KK wgBlock WgAt stA smA rd wr mk DC0)
theorem Gx.trans {row : Option Nat} {σ σ1 σ2 : Ph} {w w1 w2 : World} (h : Gx row σ w σ1 w1) (k : Gx row σ1 w1 σ2 w2) : Gx row σ w σ2 w2 := by
  have h1 := h.size
  have h2 := k.size
  refine ⟨?_, fun x hx => k.f0 x (h.f0 x hx), fun x hx => ?_, fun x hx hr => ?_, by omega, k.os.trans h.os, k.output.trans h.output⟩
  · rw [k.same, h.same]
  · rcases k.f1 x hx with y | y
    · exact (h.f1 x y).imp _root_.id fun k => ⟨k.1, by omega⟩
    · exact .inr ⟨by omega, y.2⟩
  · rw [k.low x (by omega) hr]
    exact h.low x hx hr
theorem inP_box {w : World} {s : Nat} {x : ByteArray} {y : Int} (h : w.heap[s]? = some (.cells #[.string x, .int .i64 y] tP)) : InP w (some ⟨s, 0, none⟩) [(x, y)] := by
  intro _
  refine ⟨s, 0, rfl, fun i hi => ?_⟩
  rw [cell_of_row _ _ _ _ _ _ h, Nat.zero_add, ← Array.getElem?_toList]
  simp [pc]
theorem prvs_inj : ∀ {L M : List PV}, L.map prv = M.map prv → L = M
  | [], [], _ => rfl
  | [], _ :: _, h => by simp at h
  | _ :: _, [], h => by simp at h
  | (a, b) :: L, (c, d) :: M, h => by
    simp only [List.map_cons, List.cons.injEq, prv, Value.agg.injEq] at h
    obtain ⟨h1, h2⟩ := h
    have h3 := congrArg Array.toList h1
    simp only [List.cons.injEq, Value.string.injEq, Value.int.injEq, true_and, and_true] at h3
    obtain ⟨rfl, rfl⟩ := h3
    rw [prvs_inj h2]
/-- The pairs of all inputs, as the picks say. -/
def mergeT (L : List (List PV)) (picks : List Int) : List PV := (things L picks 0).map (·.2)
noncomputable def bodyMe : Code := (Try.f17.body).getD .skip
theorem bodyMe_eq : Try.f17.body = some bodyMe := rfl
theorem ntMe : Try.f17.ntmps = 18 := by kernel_rfl
theorem calmStreamP : SM 20 = true := by kernel_rfl
theorem nmStreamP : (Try.f20.name == "runtime.NumGoroutine") = false := by kernel_rfl
/-- Merge's own state: the box 'out' at s, the row of what has come. -/
def MeI (s : Nat) (B : Nat → Prop) (d : List (Nat × Value)) (w : World) : Prop :=
  ∃ v l, w.heap[s]? = some (.cells #[v] 32) ∧ OwnP w (s + 1) v l ∧ d.map (·.2) = l.map prv ∧ ∀ x, B x ↔ x = s ∨ v.ownBlock = some x
theorem MeI.stab (s : Nat) : Stable (MeI s) := by
  rintro B d w w' ⟨v, l, h1, h2, h3, h4⟩ hw hs
  exact ⟨v, l, (hw s ((h4 s).2 (.inl rfl))).trans h1, owns_keep h2 (fun g _ e => hw g ((h4 g).2 (.inr e))), h3, h4⟩
section
variable {Post : Value → World → Prop} {σ : Ph} {pw : World} {c : Frame} {cs : List Frame}
set_option maxRecDepth 100000 in
set_option maxHeartbeats 4000000 in
/-- A round of Merge's. -/
theorem merge_round {s l N pn ci pc bo bp : Nat} {pi pp : Option Addr} {All : List (Nat × Value)} {x0 x1 x8 x9 : Value} (hlen : All.length ≤ 1000000000000) (hPV : ∀ q ∈ All, ∃ y : PV, q.2 = prv y) :
    RoundOk Post 17 l 0 All (MeI s) (fun _ _ _ => False) #[.slice pi N ci, .slice pp pn pc, x0, x1, .slice none 0 0, .pointer (some ⟨s, 0, none⟩), undef, undef, x8, x9, .func (.func 29) #[] #[.pointer (some ⟨bo, 0, none⟩), .pointer (some ⟨bp, 0, none⟩)], undef, undef, undef, undef, undef, undef, undef] #[11, 12]
      (match bodyMe with | .seq _ (.seq _ (.seq (.seq _ (.block _ (.rangeFunc _ _ x _))) _)) => x | _ => .skip) (match bodyMe with | .seq _ (.seq _ (.seq (.seq _ (.block _ (.rangeFunc _ _ _ x))) _)) => x | _ => .skip) := by
  rintro B dn i v rest σ pw hAll hI hB hF hgs hlw
  obtain ⟨ys, yi, rfl⟩ : ∃ ys yi, v = .agg #[.string ys, .int .i64 yi] := by
    obtain ⟨y, hy⟩ := hPV (i, v) (by rw [hAll]; simp)
    exact ⟨y.1, y.2, hy⟩
  have hdl : dn.length + 1 ≤ 1000000000000 := by
    have := congrArg List.length hAll
    rw [List.length_append, List.length_cons] at this
    omega
  have hsB0 : B s := by
    obtain ⟨_, _, _, _, _, h4⟩ := hI
    exact (h4 s).2 (.inl rfl)
  simp only [bodyMe, Try.f17, Option.getD_some]
  refine wpW_region ?_
  simp only [List.size_toArray, List.length_cons, List.length_nil, Nat.reduceAdd, Nat.zero_add, List.range, List.range.loop]
  refine opsW_new (ob := .cells #[.string ⟨#[]⟩, .int .i64 0] tP) (f := fun s => .pointer (some ⟨s, 0, none⟩)) (fun x hx => (hF x hx).2) rfl rfl rfl (by simp) (fun w => ⟨by go_simp, by simp [go_sem]⟩) fun σ2 pw2 sv g2 h2 f2 l2 z2 => ?_
  walk_nrm
  have hF2 := g2.hG hgs hF
  have hgs2 : Try.prog.globals.size ≤ pw2.heap.size := by have := g2.size; omega
  refine opsW_set2 calmM hF2 hgs2 rfl rfl rfl ⟨sv, 0, none⟩ ⟨sv, 1, none⟩ (.string ys) (.int .i64 yi) (by show sv < _; omega) (by show sv < _; omega) (fun κ t d K hK => ?_)
  have hx0 : ((grW Try.prog pw2 κ).re t d).heap[sv]? = some (.cells #[.string ⟨#[]⟩, .int .i64 0] tP) := (grW_at (by omega)).trans h2
  obtain ⟨hx1, hx2, hx3, hx4⟩ := cell_row2 hx0
  go_simp
  refine hK _ ?_
  clear hK hx0 hx1 hx2 hx3 hx4
  obtain ⟨h3, hoth3, hsz3, hos3, hout3⟩ := pair_set (a := .string ys) (b := .int .i64 yi) h2
  have gB : Gw σ pw σ2 ((pw2.setCell ⟨sv, 0, none⟩ (.string ys)).setCell ⟨sv, 1, none⟩ (.int .i64 yi)) := (g2.set (by show pw.heap.size ≤ sv; omega)).set (by show pw.heap.size ≤ sv; omega)
  generalize (pw2.setCell ⟨sv, 0, none⟩ (.string ys)).setCell ⟨sv, 1, none⟩ (.int .i64 yi) = pw2' at h3 gB hsz3 ⊢
  clear hoth3 hos3 hout3 g2 h2
  walk_nrm
  refine opsW_nil ⟨rfl, gB, fun pw3 hI3 hsz3' hoth => ?_⟩
  have hbv : pw3.heap[sv]? = some (.cells #[.string ys, .int .i64 yi] tP) := (hoth sv (by omega)).trans h3
  obtain ⟨hb1, hb2, _, _⟩ := cell_row2 hbv
  obtain ⟨v, l, hbox, hown, hd, hBx⟩ := hI3
  have hsB : B s := (hBx s).2 (.inl rfl)
  have hs3 : s < pw3.heap.size := (Array.getElem?_eq_some_iff.1 hbox).1
  have hll : l.length = dn.length := by
    have := congrArg List.length hd
    rw [List.length_map, List.length_map] at this
    exact this.symm
  have hGW : ∀ b, σ2.F b → Try.prog.globals.size ≤ b ∧ b < pw3.heap.size := fun b hb => by have := hF2 b hb; exact ⟨this.1, by omega⟩
  have hgs3 : Try.prog.globals.size ≤ pw3.heap.size := by omega
  have hBF : ∀ x, B x → ¬ σ2.F x := fun x hx => gB.nF (hB x hx).2 (hB x hx).1
  have hBl : ∀ x, B x → x < pw3.heap.size := fun x hx => by have := (hB x hx).1; have := gB.size; omega
  obtain ⟨hc1, hc2⟩ := cell_row1 hbox
  refine wpW_block (wpW_region ?_)
  simp only [List.size_toArray, List.length_cons, List.length_nil, Nat.reduceAdd, Nat.zero_add, List.range, List.range.loop]
  refine opsW_read calmM hGW hgs3 rfl rfl rfl (fun κ t d K hK => ?_)
  have hx := grW_cell (P := Try.prog) (k := κ) hc1 (t := t) (d := d)
  go_simp
  refine hK _ ?_
  clear hK hx
  walk_nrm
  refine opsW_read calmM hGW hgs3 rfl rfl rfl (fun κ t d K hK => ?_)
  have hx := grW_cell (P := Try.prog) (k := κ) hb1 (t := t) (d := d)
  have hy := grW_cell (P := Try.prog) (k := κ) hb2 (t := t) (d := d)
  go_simp
  refine hK _ ?_
  clear hK hx hy
  walk_nrm
  refine opsW_new (ob := .cells #[.string ys, .int .i64 yi] tP) (f := fun s => .slice (some ⟨s, 0, none⟩) 1 1) (fun x hx => (hGW x hx).2) rfl rfl rfl (by simp) (fun w => ⟨by go_simp, by simp [go_sem]⟩) fun σ4 w4 s4 g4 h4 f4 l4 z4 => ?_
  walk_nrm
  have hG4 := g4.hG hgs3 hGW
  have hgz4 := g4.size
  have own4 : w4.ownsRow (s + 1) tP 2 v l.length (Pr.pc l) := owns_keep (w' := w4) hown (fun g hg _ => g4.low g hg)
  refine opsW_app calmM hG4 (by omega) rfl rfl rfl (s + 1) (v := v) (e := tP) (z0 := .agg #[.string ⟨#[]⟩, .int .i64 0]) (size := 2) (bytes := 24) Try.underlying32 rfl rfl rfl own4 rfl (fun κ t d => srcP (c := 1) (inP_box ((grW_at (by omega)).trans h4))) (by simp only [maxLen, List.length_singleton]; omega) (by simp only [List.length_singleton]; omega) (by omega) (fun v' σ5 w5 own5 g5 b5 => ?_)
  have g45 := Gx.trans (g4.x (row := v.ownBlock)) g5
  have hgz5 := g5.size
  have e1 : Pr.pc l ++ Pr.pc [(ys, yi)] = Pr.pc (l ++ [(ys, yi)]) := (pc_append _ _).symm
  have own6 : OwnP w5 (s + 1) v' (l ++ [(ys, yi)]) := by
    unfold OwnP
    rw [List.length_append, List.length_singleton, ← e1]
    exact own5
  have hbox5 : w5.heap[s]? = some (.cells #[v] 32) := by
    rw [g45.low s hs3 (fun e => ?_), hbox]
    have := (World.ownsRow.lt hown s e.symm).1
    omega
  obtain ⟨p5, c5, rfl, _⟩ := own6.shape (n := l.length + 1) (by simp)
  obtain ⟨hc51, hc52⟩ := cell_row1 hbox5
  have hG5 : ∀ b, σ5.F b → Try.prog.globals.size ≤ b ∧ b < w5.heap.size := Gx.hG g45 hgs3 hGW
  have hs5 : s < w5.heap.size := by omega
  clear hll e1 own5 own4
  walk_nrm
  refine opsW_set calmM hG5 (by omega) rfl rfl rfl ⟨s, 0, none⟩ (.slice p5 (l.length + 1) c5) (by show s < _; omega) (fun κ t d K hK => ?_)
  have hx1 := grW_cell (P := Try.prog) (k := κ) hc51 (t := t) (d := d)
  have hx2 : ((grW Try.prog w5 κ).re t d).frozen? ⟨s, 0, none⟩ = false := (cell_row1 (w := (grW Try.prog w5 κ).re t d) ((grW_at hs5).trans hbox5)).2
  go_simp
  refine hK _ ?_
  clear hK hx1 hx2
  refine opsW_nil ?_
  have hst : (w5.setCell ⟨s, 0, none⟩ (.slice p5 (l.length + 1) c5)).heap[s]? = some (.cells #[.slice p5 (l.length + 1) c5] 32) := by
    rw [heap_setCell_same w5 s 0 _ _ _ hbox5]
    rfl
  have hoth5 : ∀ x, x ≠ s → (w5.setCell ⟨s, 0, none⟩ (.slice p5 (l.length + 1) c5)).heap[x]? = w5.heap[x]? := fun x hx => heap_setCell_other w5 ⟨s, 0, none⟩ x _ hx
  have hszs : (w5.setCell ⟨s, 0, none⟩ (.slice p5 (l.length + 1) c5)).heap.size = w5.heap.size := by simp
  have own7 : OwnP (w5.setCell ⟨s, 0, none⟩ (.slice p5 (l.length + 1) c5)) (s + 1) (.slice p5 (l.length + 1) c5) (l ++ [(ys, yi)]) :=
    owns_keep own6 fun g _ e => hoth5 g (by have := (World.ownsRow.lt own6 g e).1; omega)
  refine .inl ⟨rfl, fun x => x = s ∨ (Value.slice p5 (l.length + 1) c5).ownBlock = some x, ⟨.slice p5 (l.length + 1) c5, l ++ [(ys, yi)], hst, own7, ?_, fun x => Iff.rfl⟩, g45.same, g45.f0, fun x hx => ?_, ⟨by rw [hszs]; omega, fun x hx hnB => ?_, fun x hx => ?_, g45.os, g45.output⟩, fun x hx => ?_⟩
  · rw [List.map_append, List.map_append, hd]
    rfl
  · rw [hszs]
    exact g45.f1 x hx
  · have hxs : x ≠ s := fun e => hnB ((hBx x).2 (.inl e))
    rw [hoth5 x hxs, g45.low x hx fun e => hnB ((hBx x).2 (.inr e.symm))]
  · rw [hszs]
    rcases hx with rfl | hx
    · exact ⟨hs5, .inl hsB⟩
    · refine ⟨(World.ownsRow.lt own6 x hx).2, ?_⟩
      rcases b5 with h | ⟨g, h, h6, _⟩
      · exact .inl ((hBx x).2 (.inr (h ▸ hx)))
      · rw [h] at hx
        simp only [Option.some.injEq] at hx
        exact .inr (by omega)
  · rcases hx with rfl | hx
    · exact g45.nF (hBF _ hsB) (hBl _ hsB)
    · rcases b5 with h | ⟨g, h, _, h7⟩
      · have hxB : B x := (hBx x).2 (.inr (h ▸ hx))
        exact g45.nF (hBF _ hxB) (hBl _ hxB)
      · rw [h] at hx
        simp only [Option.some.injEq] at hx
        rw [← hx]
        exact h7
set_option maxRecDepth 100000 in
set_option maxHeartbeats 4000000 in
/-- ████ Merge, FROM ITS ENTRY. ████ -/
theorem mergeM {room N ci pn pc : Nat} {pi pp : Option Addr} {L : List (List PV)} {picks : List Int} (hid : Idle σ pw room) (hroom : N ≤ room) (hin : InLs pw pi L) (hN : L.length = N) (hs : N < 1000000) (htot : total L ≤ 100000000000) (hp : InI pw pp picks) (hpn : picks.length = pn) (hps : pn ≤ 20000000000000)
    (hn : ∀ σ' v pw', Idle σ' pw' (room - N) → Later σ pw σ' → OwnP pw' pw.heap.size v (mergeT L picks) → pw.heap.size ≤ pw'.heap.size → (∀ x, x < pw.heap.size → pw'.heap[x]? = pw.heap[x]?) → pw'.os = pw.os → pw'.output = pw.output → MV Try.prog wtG zI zS Post σ' (G (c.finish v) cs) pw') :
    MV Try.prog wtG zI zS Post σ (G (Frame.enter Try.prog 17 #[.slice pi N ci, .slice pp pn pc] .normal) (c :: cs)) pw := by
  have hG : ∀ b, σ.F b → Try.prog.globals.size ≤ b := fun b hb => (hid.fb b hb).1
  have HN : RowKit.Hid (∀ σ' v pw', Idle σ' pw' (room - N) → Later σ pw σ' → OwnP pw' pw.heap.size v (mergeT L picks) → pw.heap.size ≤ pw'.heap.size → (∀ x, x < pw.heap.size → pw'.heap[x]? = pw.heap[x]?) → pw'.os = pw.os → pw'.output = pw.output → MV Try.prog wtG zI zS Post σ' (G (c.finish v) cs) pw') := Lib.hid hn
  clear hn
  have hlens : ∀ l ∈ L, l.length < 1000000000000 := fun l hl => by
    obtain ⟨i, hi, rfl⟩ := List.mem_iff_getElem.1 hl
    have := total_get (List.getElem?_eq_getElem hi)
    omega
  refine mv_bodyO (cc := bodyMe) Try.func17 bodyMe_eq (fun Q hQ => ?_)
  rw [ntMe, app18]
  simp only [bodyMe, Try.f17, Option.getD_some]
  refine wpM_seq (wpM_region ?_)
  simp only [List.size_toArray, List.length_cons, List.length_nil, Nat.zero_add, List.range, List.range.loop]
  refine opsM_k calmM hG rfl rfl rfl (fun t d K hK => ?_)
  go_simp
  refine hK _ _ (opsM_re ?_)
  clear hK
  walk_nrm
  refine opsM_nil ?_
  show wpM _ _ _ _ _ _ _ _ _ _ _
  refine wpM_seq (wpM_region ?_)
  simp only [List.size_toArray, List.length_cons, List.length_nil, Nat.zero_add, List.range, List.range.loop]
  refine opsM_push (ob := .cells #[.slice none 0 0] 32) (f := fun s => .pointer (some ⟨s, 0, none⟩)) rfl rfl rfl (by simp) (fun w => ⟨by go_simp, by simp [go_sem]⟩) ?_
  walk_nrm
  refine opsM_nil ?_
  show wpM _ _ _ _ _ _ _ _ _ _ _
  refine wpM_seq (wpM_seq (wpM_region ?_))
  simp only [List.size_toArray, List.length_cons, List.length_nil, Nat.reduceAdd, Nat.zero_add, List.range, List.range.loop]
  refine opsM_k calmM hG rfl rfl rfl (fun t d K hK => ?_)
  go_simp
  refine hK _ _ (opsM_re ?_)
  clear hK
  walk_nrm
  refine opsM_k calmM hG rfl rfl rfl (fun t d K hK => ?_)
  go_simp
  refine hK _ _ (opsM_re ?_)
  clear hK
  walk_nrm
  obtain ⟨w1, hw1⟩ : ∃ w1, w1 = pw.alloc (.cells #[.slice none 0 0] 32) := ⟨_, rfl⟩
  have hs1 : w1.heap.size = pw.heap.size + 1 := by rw [hw1]; simp only [World.size_alloc]
  have hbl : Below pw.heap.size pw w1 := by rw [hw1]; exact (Below.refl _ pw).alloc (Nat.le_refl _) _
  have hbox1 : w1.heap[pw.heap.size]? = some (.cells #[.slice none 0 0] 32) := by rw [hw1]; exact alloc_self
  rw [← hw1]
  have HW := Lib.hid hw1
  clear hw1
  refine opsM_enter (f := 20) rfl rfl (by intro c e; cases e) (fun w => run_enterOp rfl Try.func20 nmStreamP rfl w) (fun base cs hb => ?_)
  walk_nrm
  refine mv_calls calmM hG calmStreamP (R := fun t d v w' => ∃ base1 bo bp g pa pc', v = .func (.func 29) #[] #[.pointer (some ⟨bo, 0, none⟩), .pointer (some ⟨bp, 0, none⟩)] ∧ StreamAt w' w1.heap.size base1 bo bp g pa pc' L picks ∧ Below w1.heap.size (w1.re t d) w') (fun t d => (streamP_any (w1.re t d) ((hin.below hbl).re t d) hN hs hlens ((hp.below hbl).re t d) hpn hps).mono fun e w' h => ?_) (fun v w2 hv => ?_)
  · obtain ⟨base1, bo, bp, g, pa, pc', h1, h2, h3⟩ := h
    exact ⟨_, h1, base1, bo, bp, g, pa, pc', rfl, h2, h3⟩
  obtain ⟨t, d, t', d', base1, bo, bp, g, pa, pc', rfl, hSt, hb2⟩ := hv
  obtain ⟨hsz2, hlow2, hos2, hout2⟩ := below_re hb2
  replace hSt : StreamAt w2 w1.heap.size base1 bo bp g pa pc' L picks := hSt.keep (fun _ _ _ => rfl) (Nat.le_refl _)
  refine hb _ _ _ ?_
  clear hb hb2
  walk_nrm
  refine opsM_nil ?_
  show wpM _ _ _ _ _ _ _ _ _ _ _
  have hlo := hSt.lo
  have hhi := hSt.hi
  have hid2 : Idle σ w2 room := hid.grow (by omega)
  refine wpM_frozen hSt hid2 (fun x hx => by have := (hid.fb x hx).2; omega) (by have := hid.gs; omega) hlens (by omega) fun σ3 w3 hid3 hroom3 hlat3 hO3 hsz3 hlow3 hos3 hout3 => ?_
  have hlat : Later σ pw σ3 := hlat3 pw (by omega)
  have hbx3 : w3.heap[pw.heap.size]? = some (.cells #[.slice none 0 0] 32) := by rw [hlow3 _ (by omega), hlow2 _ (by omega), hbox1]
  have cellk : ∀ {x v}, w2.cell? ⟨x, 0, none⟩ = some v → x < base1 → w3.cell? ⟨x, 0, none⟩ = some v := fun {x v} h hx => (World.cell?_of_block (hlow3 _ hx)).trans h
  obtain ⟨hpl, hpc3⟩ : InI w2 pa picks ∧ ∀ a, pa = some a → w1.heap.size ≤ a.block := by
    obtain ⟨_, _, e, _, _, h4, h5⟩ := OwnI.shape hSt.picks rfl
    simp only [Value.slice.injEq, true_and] at e
    obtain ⟨rfl, rfl⟩ := e
    exact ⟨h4, fun a ha => (h5 a ha).1⟩
  have hall : things (L.map (·.map prv)) picks 0 = (things L picks 0).map fun x => (x.1, prv x.2) := things_map prv picks _ L 0 rfl
  have hPV : ∀ q ∈ things (L.map (·.map prv)) picks 0, ∃ y : PV, q.2 = prv y := fun q hq => by
    rw [hall] at hq
    obtain ⟨y, _, rfl⟩ := List.mem_map.1 hq
    exact ⟨y.2, rfl⟩
  refine wpM_block (wpM_range (f0 := 17) (idx := 0) (N := L.length) (bo := bo) (bp := bp) (cap := L.length) (ao := some ⟨g, 0, none⟩) (pa := pa) (pn := picks.length) (pc := pc') (picks := picks) (lists := L) (All := things (L.map (·.map prv)) picks 0) (B0 := fun x => x = pw.heap.size) (Iu := MeI pw.heap.size) (Ju := fun _ _ _ => False) (fun b hb => ⟨hb.2, hb.1⟩) rfl rfl (by rw [hN]; exact { hid3 with room := Nat.le_trans hroom hid3.room }) (cellk hSt.own (by omega)) hO3 (cellk hSt.bpc (by omega)) (hpl.keep fun ad h1 _ => hlow3 _ (hSt.pa ad h1)) rfl rfl hPV (by rw [total_map]; omega) (MeI.stab _) (fun _ _ _ _ h => h.elim)
    ⟨.slice none 0 0, [], hbx3, OwnP.nil _ _, rfl, fun x => ⟨.inl, fun h => h.elim id fun h => by cases h⟩⟩ (fun x hx => ?_) (by omega) (fun ad h1 h2 h3 => ?_) (merge_round (by rw [things_len, total_map]; omega) hPV) (fun σ4 B w4 hid4 hlat4 hgr4 hBF4 hI4 hd4 hdF hdB => ?_) (fun _ _ _ _ _ _ _ _ _ h => h.elim))
  · subst hx
    refine ⟨by omega, fun h => ?_⟩
    rcases (hlat3 w1 (by omega)).f' _ h with h | h
    · have := (hid.fb _ h).2
      omega
    · omega
  · have := hpc3 ad h1
    omega
  · show wpM _ _ _ _ _ _ _ _ _ _ _
    obtain ⟨v, l, hbox4, hown4, hd4l, hB4⟩ := hI4
    have hw32 : w2.heap.size ≤ w3.heap.size := by omega
    have HID3 := Lib.hid (And.intro hlat3 hO3)
    clear hsz3
    have hl : l = mergeT L picks := by
      apply prvs_inj
      rw [← hd4l, hall, List.map_map]
      simp only [mergeT, List.map_map]
      rfl
    subst hl
    obtain ⟨hc1, hc2⟩ := cell_row1 hbox4
    replace hG : ∀ b, σ4.F b → Try.prog.globals.size ≤ b := fun b hb => (hid4.fb b hb).1
    refine wpM_seq (wpM_region ?_)
    simp only [List.size_toArray, List.length_cons, List.length_nil, Nat.reduceAdd, Nat.zero_add, List.range, List.range.loop]
    refine opsM_k calmM hG rfl rfl rfl (fun t d K hK => ?_)
    have hx : (w4.re t d).cell? ⟨pw.heap.size, 0, none⟩ = some v := hc1
    go_simp
    refine hK _ _ (opsM_re ?_)
    clear hK hx
    walk_nrm
    refine opsM_k calmM hG rfl rfl rfl (fun t d K hK => ?_)
    go_simp
    refine hK _ _ (opsM_re ?_)
    clear hK
    walk_nrm
    refine opsM_nil ?_
    show wpM _ _ _ _ _ _ _ _ _ _ _
    refine wpM_ret (hQ _ _ _ fun k' => ?_)
    refine mv_collected (ds := []) rfl hdF hd4 ?_
    have hw3 : pw.heap.size < w3.heap.size := by omega
    have hvB : v.ownBlock ≠ some w3.heap.size := fun e => hdB ((hB4 _).2 (.inr e))
    have hr := hid3.room
    refine mv_leave (v := v) rfl Try.func17 rfl (fun w => run_results1 (r := 4) rfl w) (HN.out σ4 v _ ?_ (hlat.trans hlat4 (by omega)) ?_ ?_ (fun x hx => ?_) ?_ ?_)
    · have := hid4.grow (w' := w4.putObj w3.heap.size (.deferred none)) (by rw [putObj_os.2.2]; exact Nat.le_refl _)
      exact { this with room := by have := this.room; omega }
    · exact owns_keep (ownsRow_mono hown4 (by omega)) fun g _ e => putObj_ne fun e2 => hvB (by rw [e, e2])
    · rw [putObj_os.2.2]
      have := hgr4.size
      omega
    · rw [putObj_ne (by omega), hgr4.low x (by omega) (by omega), hlow3 x (by omega), hlow2 x (by omega), hbl.block x hx]
    · exact hgr4.os.trans (hos3.trans (hos2.trans (by rw [HW.out]; rfl)))
    · exact hgr4.output.trans (hout3.trans (hout2.trans (by rw [HW.out]; rfl)))
end
end Go.Proofs.Ytmllcfkgkkbkpaa.Pr
/-
  MuxPairs: its walk, what the parts stand on.
-/
namespace Go.Proofs.Ytmllcfkgkkbkpaa
open Go Go.Conc Go.RowKit Go.Conc.Lib Go.ConcR.Gen
open Go.ConcN (upd upd_ne upd_same WgLive)
open Go.ConcR (KK wgBlock WgAt stA smA rd wr mk DC0)
theorem bodyPr_eq : Try.f4.body = some bodyPr := rfl
theorem ntPr : Try.f4.ntmps = 112 := by kernel_rfl
theorem iniPr : Try.prog.inits.idxOf? 4 = none := by kernel_rfl
theorem nmMP : (Try.f17.name == "runtime.NumGoroutine") = false := by kernel_rfl
theorem app112_2 (a0 a1 : Value) : (#[a0, a1] : Array Value) ++ Array.replicate (112 - (#[a0, a1] : Array Value).size) undef = #[a0, a1, undef, undef, undef, undef, undef, undef, undef, undef, undef, undef, undef, undef, undef, undef, undef, undef, undef, undef, undef, undef, undef, undef, undef, undef, undef, undef, undef, undef, undef, undef, undef, undef, undef, undef, undef, undef, undef, undef, undef, undef, undef, undef, undef, undef, undef, undef, undef, undef, undef, undef, undef, undef, undef, undef, undef, undef, undef, undef, undef, undef, undef, undef, undef, undef, undef, undef, undef, undef, undef, undef, undef, undef, undef, undef, undef, undef, undef, undef, undef, undef, undef, undef, undef, undef, undef, undef, undef, undef, undef, undef, undef, undef, undef, undef, undef, undef, undef, undef, undef, undef, undef, undef, undef, undef, undef, undef, undef, undef, undef, undef] := by
  apply Array.ext'
  simp [List.replicate]
theorem calmPr1 : calmCode ptM SM cvM piecePr = true := by kernel_rfl
theorem calmPr2 : calmCode ptM SM cvM sizesPr = true := by kernel_rfl
theorem calmPr3 : calmCode ptM SM cvM tailPr = true := by kernel_rfl
theorem lens_boundP {L : List (List Int)} (h : total L ≤ 2000) : ∀ l ∈ L, l.length ≤ 1000000 := fun l hl => by
  obtain ⟨i, hi, rfl⟩ := List.mem_iff_getElem.1 hl
  have := total_get (List.getElem?_eq_getElem hi)
  omega
theorem inP_since {σ0 σ1 : Ph} {w w' : World} {room : Nat} {p : Option Addr} {l : List Pr.PV} (h : Pr.InP w p l) (hs : Since σ0 w σ1 w' room) : Pr.InP w' p l := InV.keep h fun a h1 h2 => hs.low _ (InV.low h a h1 h2)
theorem inPs_since {σ0 σ1 : Ph} {w w' : World} {room : Nat} {p : Option Addr} {L : List (List Pr.PV)} (h : Pr.InLs w p L) (hs : Since σ0 w σ1 w' room) : Pr.InLs w' p L := by
  obtain ⟨hs0, h1, h2, h3⟩ := h
  refine ⟨hs0, InV.keep h1 fun a e h0 => hs.low _ (h1.low a e h0), h2, fun i l hi => ?_⟩
  obtain ⟨q, c, h4, h5⟩ := h3 i l hi
  exact ⟨q, c, h4, inP_since h5 hs⟩
section
variable {Post : Value → World → Prop} {σ : Ph} {pw : World} {c : Frame} {cs : List Frame}
theorem turnsSP {room n cc np cp : Nat} {p pp : Option Addr} {L : List (List Int)} {picks : List Int} (hid : Idle σ pw room) (h : InI pw p (lens L)) (hn : L.length = n) (hs : n ≤ 1000000) (htot : total L ≤ 1000000000000) (hp : InI pw pp picks) (hnp : picks.length = np)
    (hk : ∀ v pw', Since σ pw σ pw' room → OwnI pw' pw.heap.size v (turnsT L picks) → MV Try.prog wtG zI zS Post σ (G (c.finish v) cs) pw') :
    MV Try.prog wtG zI zS Post σ (G (Frame.enter Try.prog 18 #[.slice p n cc, .slice pp np cp] .normal) (c :: cs)) pw := by
  refine mv_calls calmM (fun b hb => (hid.fb b hb).1) calmRT (R := fun t d v w' => OwnI w' pw.heap.size v (turnsT L picks) ∧ Below pw.heap.size (pw.re t d) w') (fun t d => (turns_any (pw.re t d) (h.re t d) hn hs htot (hp.re t d) hnp).mono fun e w' h => ?_) (fun v w2 hv => ?_)
  · obtain ⟨v, h1, h2, h3⟩ := h
    exact ⟨v, h1, h2, h3⟩
  · obtain ⟨t, d, t', d', ho, hb⟩ := hv
    exact hk v w2 ((Since.refl hid).belowR hb) ho
/-- Merge of pairs, from the idle view: its select's zero values are others. -/
theorem mergePS {room N ci pn pc : Nat} {pi pp : Option Addr} {L : List (List Pr.PV)} {picks : List Int} (hid : Idle σ pw room) (hroom : N ≤ room) (hin : Pr.InLs pw pi L) (hN : L.length = N) (hs : N < 1000000) (htot : total L ≤ 100000000000) (hp : InI pw pp picks) (hpn : picks.length = pn) (hps : pn ≤ 20000000000000)
    (hk : ∀ σ' v pw', Since σ pw σ' pw' (room - N) → Pr.OwnP pw' pw.heap.size v (Pr.mergeT L picks) → MV Try.prog wtG zI zS Post σ' (G (c.finish v) cs) pw') :
    MV Try.prog wtG zI zS Post σ (G (Frame.enter Try.prog 17 #[.slice pi N ci, .slice pp pn pc] .normal) (c :: cs)) pw :=
  mv_z hid.tag (Pr.mergeM hid hroom hin hN hs htot hp hpn hps fun σ' v pw' h1 h2 h3 h4 h5 h6 h7 => mv_z h1.tag (hk σ' v pw' ⟨h1, h2, h4, h5, h6, h7⟩ h3))
end
noncomputable def restB : Code := match bodyPr with | .seq _ (.seq _ (.seq _ (.seq _ (.seq _ x)))) => x | _ => .skip
noncomputable def restC : Code := match bodyPr with | .seq _ (.seq _ (.seq _ (.seq _ (.seq _ (.seq _ (.seq _ (.seq _ x))))))) => x | _ => .skip
section
variable {Post : Value → World → Prop} {fn : Frame → Prop} {Q : Exit → Act → Ph → World → Prop} {T : Array Value} {σ0 σ1 : Ph} {w0 w3 : World} {room n c g base : Nat} {p : Option Addr} {L : List (List Int)} {x1 x9 : Value}
theorem piece1S (hS : Since σ0 w0 σ1 w3 room) (hA : InLs w0 p L) (hb0 : w0.heap.size ≤ base) (hbase : base ≤ w3.heap.size) (hT : T.size = 112) (t0 : T[0]? = some (.slice p n c)) (t1 : T[1]? = some x1) (t5 : T[5]? = some (.slice (some ⟨g, 0, none⟩) 0 0)) (hn : L.length = n) (hs : n ≤ 100) (hl : ∀ l ∈ L, l.length ≤ 1000000) (hown : Pr.OwnPs w3 base (.slice (some ⟨g, 0, none⟩) 0 0) [])
    (hk : ∀ T' v5 w4, T'.size = 112 → T'[0]? = some (.slice p n c) → T'[1]? = some x1 → T'[5]? = some v5 → Pr.OwnPs w4 base v5 (prL L) → Since σ0 w0 σ1 w4 room → Q .normal ⟨T', []⟩ σ1 w4) : wpM Try.prog wtG zI zS Post fn piecePr Q ⟨T, []⟩ σ1 w3 := by
  refine wpM_piece calmM (fun b hb => (hS.idle.fb b hb).1) calmPr1 (noRet_true _) (R := fun t d a' w' => ∃ T' v5, a' = ⟨T', []⟩ ∧ T'.size = 112 ∧ T'[0]? = some (.slice p n c) ∧ T'[1]? = some x1 ∧ T'[5]? = some v5 ∧ Pr.OwnPs w' base v5 (prL L) ∧ Below base (w3.re t d) w') (fun t d => pairs_piece (w3.re t d) hT t0 t1 t5 (fun wr hb => hA.since (hS.step (w' := wr) hb.size (fun x hx => hb.block x (by omega)) hb.os hb.output)) hn hs hl hown hbase) (fun a' w4 hR => ?_)
  obtain ⟨t, d, t', d', T', v5, rfl, h0, h1, h2, h3, h4, h5⟩ := hR
  exact hk T' v5 w4 h0 h1 h2 h3 h4 (hS.step h5.size (fun x hx => h5.block x (by omega)) h5.os h5.output)
theorem piece2S (hS : Since σ0 w0 σ1 w3 room) (hA : InLs w0 p L) (hb0 : w0.heap.size ≤ base) (hbase : base ≤ w3.heap.size) (hT : T.size = 112) (t0 : T[0]? = some (.slice p n c)) (t1 : T[1]? = some x1) (t9 : T[9]? = some x9) (t10 : T[10]? = some (.slice (some ⟨g, 0, none⟩) 0 0)) (hn : L.length = n) (hs : n ≤ 100) (hown : OwnI w3 base (.slice (some ⟨g, 0, none⟩) 0 0) [])
    (hk : ∀ T' v w4, T'.size = 112 → T'[0]? = some (.slice p n c) → T'[1]? = some x1 → T'[9]? = some x9 → T'[10]? = some v → OwnI w4 base v (lens L) → Since σ0 w0 σ1 w4 room → (∀ x, x < base → w4.heap[x]? = w3.heap[x]?) → Q .normal ⟨T', []⟩ σ1 w4) : wpM Try.prog wtG zI zS Post fn sizesPr Q ⟨T, []⟩ σ1 w3 := by
  refine wpM_piece calmM (fun b hb => (hS.idle.fb b hb).1) calmPr2 (noRet_true _) (R := fun t d a' w' => ∃ T' v, a' = ⟨T', []⟩ ∧ T'.size = 112 ∧ T'[0]? = some (.slice p n c) ∧ T'[1]? = some x1 ∧ T'[9]? = some x9 ∧ T'[10]? = some v ∧ OwnI w' base v (lens L) ∧ Below base (w3.re t d) w') (fun t d => sizes_piece (w3.re t d) hT t0 t1 t9 t10 (fun wr hb => hA.since (hS.step (w' := wr) hb.size (fun x hx => hb.block x (by omega)) hb.os hb.output)) hn hs (hown.re t d) hbase) (fun a' w4 hR => ?_)
  obtain ⟨t, d, t', d', T', v, rfl, h0, h1, h2, h3, h4, h5, h6⟩ := hR
  exact hk T' v w4 h0 h1 h2 h3 h4 h5 (hS.step h6.size (fun x hx => h6.block x (by omega)) h6.os h6.output) (fun x hx => h6.block x hx)
theorem tailS {q qt qw : Option Addr} {m cg ct cw : Nat} {GG : List Pr.PV} {Wt Tn : List Int} (hS : Since σ0 w0 σ1 w3 room) (hT : T.size = 112) (t9 : T[9]? = some (.slice q m cg)) (t12 : T[12]? = some (.slice qt m ct)) (t13 : T[13]? = some (.slice qw m cw)) (hG : Pr.InP w3 q GG) (hW : InI w3 qw Wt) (hTn : InI w3 qt Tn) (hc : Cmp GG Wt Tn m) (hm : m ≤ 1000000)
    (hk : ∀ a' w4, a'.tmps.getD 4 undef = .bool true → a'.defers = [] → Since σ0 w0 σ1 w4 room → Q .ret a' σ1 w4) : wpM Try.prog wtG zI zS Post fn tailPr Q ⟨T, []⟩ σ1 w3 := by
  refine wpM_calm calmM (fun b hb => (hS.idle.fb b hb).1) calmPr3 (R := fun t d r a' w' => r = true ∧ a'.tmps.getD 4 undef = .bool true ∧ a'.defers = [] ∧ Below w3.heap.size (w3.re t d) w') (fun t d => pairs_tail (w3.re t d) hT t9 t12 t13 (hG.re t d) (hW.re t d) (hTn.re t d) hc hm) (fun r a' w4 hR => ?_)
  obtain ⟨t, d, t', d', rfl, h1, h2, h3⟩ := hR
  exact hk _ w4 h1 rfl (hS.belowR h3)
end
end Go.Proofs.Ytmllcfkgkkbkpaa
/-
  MuxPairs: the walk's last part.
-/
namespace Go.Proofs.Ytmllcfkgkkbkpaa
open Go Go.Conc Go.RowKit Go.Conc.Lib Go.ConcR.Gen
open Go.ConcN (upd upd_ne upd_same WgLive)
open Go.ConcR (KK wgBlock WgAt stA smA rd wr mk DC0)
section
variable {W : World} {fn : Frame → Prop} {Q : Exit → Act → Ph → World → Prop} {T : Array Value} {σ σ1 : Ph} {pw w1 : World} {room n np c cp base : Nat} {p pp : Option Addr} {L : List (List Int)} {picks : List Int}
set_option maxRecDepth 100000 in
set_option maxHeartbeats 8000000 in
theorem pairs_C {q6 : Option Addr} {m c6 : Nat} {v10 : Value} {GG : List Pr.PV} {Wt Tn : List Int} (hst : Start W σ pw) (hS1 : Since σ pw σ1 w1 room) (hA : InLs pw p L) (hP : InI pw pp picks) (hn : L.length = n) (hnp : picks.length = np) (hn100 : n ≤ 100) (ht : total L ≤ 2000) (_hsp : np ≤ 1048576) (hT : T.size = 112) (t0 : T[0]? = some (.slice p n c)) (t1 : T[1]? = some (.slice pp np cp)) (t9 : T[9]? = some (.slice q6 m c6)) (t10 : T[10]? = some v10) (hown : OwnI w1 base v10 (lens L)) (hin : Pr.InP w1 q6 GG) (hWt : Wt = mergeT L picks) (hTn : Tn = turnsT L picks) (hc : Cmp GG Wt Tn m) (hm : m ≤ 2000)
    (hQ : ∀ a' σ' pw', (∀ k', MV Try.prog wtG zI zS (PostT W) σ' (G (outF 4 a' k') []) pw') → Q .ret a' σ' pw') : wpM Try.prog wtG zI zS (PostT W) fn restC Q ⟨T, []⟩ σ1 w1 := by
  have hG : ∀ b, σ1.F b → Try.prog.globals.size ≤ b := fun b hb => (hS1.idle.fb b hb).1
  have hWl : Wt.length = m := hc.w
  have hTl : Tn.length = m := hc.t
  have HC := Lib.hid hc
  clear hc
  obtain ⟨tl, htl⟩ : ∃ x, x = tailPr := ⟨_, rfl⟩
  have hbody : restC = .seq (match bodyPr with | .seq _ (.seq _ (.seq _ (.seq _ (.seq _ (.seq _ (.seq _ (.seq _ (.seq x _)))))))) => x | _ => .skip) (.seq (match bodyPr with | .seq _ (.seq _ (.seq _ (.seq _ (.seq _ (.seq _ (.seq _ (.seq _ (.seq _ (.seq x _))))))))) => x | _ => .skip) tailPr) := rfl
  rw [hbody, ← htl]
  clear hbody
  simp only [bodyPr, Try.f4, Option.getD_some]
  refine cps112 hT fun v0 v1 v2 v3 v4 v5 v6 v7 v8 v9 v10 v11 v12 v13 v14 v15 v16 v17 v18 v19 v20 v21 v22 v23 v24 v25 v26 v27 v28 v29 v30 v31 v32 v33 v34 v35 v36 v37 v38 v39 v40 v41 v42 v43 v44 v45 v46 v47 v48 v49 v50 v51 v52 v53 v54 v55 v56 v57 v58 v59 v60 v61 v62 v63 v64 v65 v66 v67 v68 v69 v70 v71 v72 v73 v74 v75 v76 v77 v78 v79 v80 v81 v82 v83 v84 v85 v86 v87 v88 v89 v90 v91 v92 v93 v94 v95 v96 v97 v98 v99 v100 v101 v102 v103 v104 v105 v106 v107 v108 v109 v110 v111 eT => ?_
  subst eT
  simp only [List.getElem?_toArray, List.getElem?_cons_zero, List.getElem?_cons_succ, Option.some.injEq] at t0 t1 t9 t10
  subst t0 t1 t9 t10
  obtain ⟨q10, c10, rfl, _, _, hin10, _⟩ := hown.shape (n := n) (by rw [lens_length, hn])
  clear hown
  refine wpM_seq (wpM_region ?_)
  simp only [List.size_toArray, List.length_cons, List.length_nil, Nat.reduceAdd, Nat.zero_add, List.range, List.range.loop]
  refine opsM_k calmM hG rfl rfl rfl (fun t d K hK => ?_)
  go_simp
  refine hK _ _ (opsM_re ?_)
  clear hK
  walk_nrm
  refine opsM_k calmM hG rfl rfl rfl (fun t d K hK => ?_)
  go_simp
  refine hK _ _ (opsM_re ?_)
  clear hK
  walk_nrm
  refine opsM_enter (f := 18) rfl rfl (by intro c e; cases e) (fun w => run_enterOp rfl Try.func18 nmRT rfl w) (fun base cs hb => ?_)
  walk_nrm
  refine turnsSP hS1.idle hin10 hn (by omega) (by omega) (hP.since hS1) hnp fun u9 w9 hS9 hu9 => hb _ _ _ ?_
  clear hb
  rw [← hTn] at hu9
  obtain ⟨q12, c12, rfl, _, _, hin12, _⟩ := hu9.shape (n := m) hTl
  have hS9' := hS1.trans hS9
  clear hu9 hin10
  walk_nrm
  refine opsM_k calmM hG rfl rfl rfl (fun t d K hK => ?_)
  go_simp
  refine hK _ _ (opsM_re ?_)
  clear hK
  walk_nrm
  refine opsM_nil ?_
  show wpM _ _ _ _ _ _ _ _ _ _ _
  refine wpM_seq (wpM_region ?_)
  simp only [List.size_toArray, List.length_cons, List.length_nil, Nat.reduceAdd, Nat.zero_add, List.range, List.range.loop]
  refine opsM_k calmM hG rfl rfl rfl (fun t d K hK => ?_)
  go_simp
  refine hK _ _ (opsM_re ?_)
  clear hK
  walk_nrm
  refine opsM_k calmM hG rfl rfl rfl (fun t d K hK => ?_)
  go_simp
  refine hK _ _ (opsM_re ?_)
  clear hK
  walk_nrm
  refine opsM_enter (f := 15) rfl rfl (by intro c e; cases e) (fun w => run_enterOp rfl Try.func15 nmRM rfl w) (fun base cs hb => ?_)
  walk_nrm
  refine refMergeS hS9'.idle (hA.since hS9') hn (by omega) (by omega) (hP.since hS9') hnp fun u10 w10 hS10 hu10 => hb _ _ _ ?_
  clear hb
  rw [← hWt] at hu10
  obtain ⟨q13, c13, rfl, _, _, hin13, _⟩ := hu10.shape (n := m) hWl
  have hS10' := hS9'.trans hS10
  have hin12' := hin12.since hS10
  have hin9 : Pr.InP w10 q6 GG := inP_since (inP_since hin hS9) hS10
  clear hu10 hin12
  walk_nrm
  refine opsM_k calmM hG rfl rfl rfl (fun t d K hK => ?_)
  go_simp
  refine hK _ _ (opsM_re ?_)
  clear hK
  walk_nrm
  refine opsM_nil ?_
  show wpM _ _ _ _ _ _ _ _ _ _ _
  subst htl
  refine tailS hS10' rfl rfl rfl rfl hin9 hin13 hin12' HC.out (by omega) fun a' w4 h1 h2 h3 => hQ _ _ _ fun k' => ?_
  exact law_true hst h3 h2 Try.func4 iniPr (r := 4) rfl h1
end
end Go.Proofs.Ytmllcfkgkkbkpaa
/-
  MuxPairs: the walk's middle part.
-/
namespace Go.Proofs.Ytmllcfkgkkbkpaa
open Go Go.Conc Go.RowKit Go.Conc.Lib Go.ConcR.Gen
open Go.ConcN (upd upd_ne upd_same WgLive)
open Go.ConcR (KK wgBlock WgAt stA smA rd wr mk DC0)
section
variable {W : World} {fn : Frame → Prop} {Q : Exit → Act → Ph → World → Prop} {T : Array Value} {σ σ1 : Ph} {pw w1 : World} {room n np c cp base : Nat} {p pp : Option Addr} {L : List (List Int)} {picks : List Int}
set_option maxRecDepth 100000 in
set_option maxHeartbeats 8000000 in
theorem pairs_B {v5 : Value} (hst : Start W σ pw) (hS1 : Since σ pw σ1 w1 room) (hA : InLs pw p L) (hP : InI pw pp picks) (hn : L.length = n) (hnp : picks.length = np) (hn100 : n ≤ 100) (ht : total L ≤ 2000) (hsp : np ≤ 1048576) (hT : T.size = 112) (t0 : T[0]? = some (.slice p n c)) (t1 : T[1]? = some (.slice pp np cp)) (t5 : T[5]? = some v5) (hown : Pr.OwnPs w1 base v5 (prL L)) (hroom : n ≤ room)
    (hQ : ∀ a' σ' pw', (∀ k', MV Try.prog wtG zI zS (PostT W) σ' (G (outF 4 a' k') []) pw') → Q .ret a' σ' pw') : wpM Try.prog wtG zI zS (PostT W) fn restB Q ⟨T, []⟩ σ1 w1 := by
  have hG : ∀ b, σ1.F b → Try.prog.globals.size ≤ b := fun b hb => (hS1.idle.fb b hb).1
  obtain ⟨sz, hsz⟩ : ∃ x, x = sizesPr := ⟨_, rfl⟩
  obtain ⟨rc, hrc⟩ : ∃ x, x = restC := ⟨_, rfl⟩
  have hbody : restB = .seq (match bodyPr with | .seq _ (.seq _ (.seq _ (.seq _ (.seq _ (.seq x _))))) => x | _ => .skip) (.seq (match bodyPr with | .seq _ (.seq _ (.seq _ (.seq _ (.seq _ (.seq _ (.seq x _)))))) => x | _ => .skip) (.seq sizesPr restC)) := rfl
  rw [hbody, ← hsz, ← hrc]
  clear hbody
  simp only [bodyPr, Try.f4, Option.getD_some]
  refine cps112 hT fun v0 v1 v2 v3 v4 v5 v6 v7 v8 v9 v10 v11 v12 v13 v14 v15 v16 v17 v18 v19 v20 v21 v22 v23 v24 v25 v26 v27 v28 v29 v30 v31 v32 v33 v34 v35 v36 v37 v38 v39 v40 v41 v42 v43 v44 v45 v46 v47 v48 v49 v50 v51 v52 v53 v54 v55 v56 v57 v58 v59 v60 v61 v62 v63 v64 v65 v66 v67 v68 v69 v70 v71 v72 v73 v74 v75 v76 v77 v78 v79 v80 v81 v82 v83 v84 v85 v86 v87 v88 v89 v90 v91 v92 v93 v94 v95 v96 v97 v98 v99 v100 v101 v102 v103 v104 v105 v106 v107 v108 v109 v110 v111 eT => ?_
  subst eT
  simp only [List.getElem?_toArray, List.getElem?_cons_zero, List.getElem?_cons_succ, Option.some.injEq] at t0 t1 t5
  subst t0 t1 t5
  obtain ⟨q5, c5, rfl, _, _, hL5, _⟩ := hown.shape (n := n) (by rw [prL_len, hn])
  clear hown
  refine wpM_seq (wpM_region ?_)
  simp only [List.size_toArray, List.length_cons, List.length_nil, Nat.reduceAdd, Nat.zero_add, List.range, List.range.loop]
  refine opsM_k calmM hG rfl rfl rfl (fun t d K hK => ?_)
  go_simp
  refine hK _ _ (opsM_re ?_)
  clear hK
  walk_nrm
  refine opsM_k calmM hG rfl rfl rfl (fun t d K hK => ?_)
  go_simp
  refine hK _ _ (opsM_re ?_)
  clear hK
  walk_nrm
  refine opsM_enter (f := 12) rfl rfl (by intro c e; cases e) (fun w => run_enterOp rfl Try.func12 nmCI rfl w) (fun base cs hb => ?_)
  walk_nrm
  refine copyS hS1.idle (hP.since hS1) hnp (by omega) fun u5 w5 hS5 hu5 => hb _ _ _ ?_
  clear hb
  obtain ⟨q4, c4, rfl, _, _, hin5, _⟩ := hu5.shape hnp
  have hS5' := hS1.trans hS5
  have hL5' := inPs_since hL5 hS5
  clear hu5 hL5
  walk_nrm
  refine opsM_enter (f := 17) rfl rfl (by intro c e; cases e) (fun w => run_enterOp rfl Try.func17 nmMP rfl w) (fun base cs hb => ?_)
  walk_nrm
  refine mergePS hS5'.idle hroom hL5' (by rw [prL_len, hn]) (by omega) (by rw [total_prL]; omega) hin5 hnp (by omega) fun σ6 u6 w6 hS6 hu6 => hb _ _ _ ?_
  clear hb
  have hS6' := hS5'.trans hS6
  obtain ⟨GG, hGG⟩ : ∃ x, x = Pr.mergeT (prL L) picks := ⟨_, rfl⟩
  rw [← hGG] at hu6
  have hcmp : Cmp GG (mergeT L picks) (turnsT L picks) (total L) := by rw [hGG]; exact cmp_of L picks
  have HCMP := Lib.hid hcmp
  obtain ⟨m, hm⟩ : ∃ m, m = total L := ⟨_, rfl⟩
  have HM := Lib.hid hm
  have hm2 : m ≤ 2000 := by omega
  obtain ⟨q6, c6, rfl, _, _, hin6, _⟩ := hu6.shape (n := m) (by rw [hm]; exact hcmp.g)
  replace hG : ∀ b, σ6.F b → Try.prog.globals.size ≤ b := fun b hb => (hS6.idle.fb b hb).1
  clear hu6 hL5' hin5 hcmp hGG hm
  walk_nrm
  refine opsM_k calmM hG rfl rfl rfl (fun t d K hK => ?_)
  go_simp
  refine hK _ _ (opsM_re ?_)
  clear hK
  walk_nrm
  refine opsM_nil ?_
  show wpM _ _ _ _ _ _ _ _ _ _ _
  refine wpM_seq (wpM_region ?_)
  simp only [List.size_toArray, List.length_cons, List.length_nil, Nat.reduceAdd, Nat.zero_add, List.range, List.range.loop]
  refine opsM_k calmM hG rfl rfl rfl (fun t d K hK => ?_)
  go_simp
  refine hK _ _ ?_
  clear hK
  walk_nrm
  rw [re_alloc]
  refine opsM_re ?_
  try simp only [re_size]
  refine opsM_k calmM hG rfl rfl rfl (fun t d K hK => ?_)
  go_simp
  refine hK _ _ (opsM_re ?_)
  clear hK
  walk_nrm
  refine opsM_nil ?_
  show wpM _ _ _ _ _ _ _ _ _ _ _
  have hown0 := OwnI.made w6
  have hS7 := hS6'.alloc (.cells #[] 3)
  have hz6 := hS6'.size
  obtain ⟨w7, hw7⟩ : ∃ x, x = w6.alloc (.cells #[] 3) := ⟨_, rfl⟩
  have hw7s : w6.heap.size ≤ w7.heap.size := by rw [hw7]; simp
  have hin7 : Pr.InP w7 q6 GG := by rw [hw7]; exact hin6.alloc _
  have hGlow : ∀ a, q6 = some a → 0 < (Pr.pc GG).length → a.block < w6.heap.size := fun a h1 h2 => InV.low hin6 a h1 h2
  rw [← hw7] at hown0 hS7 ⊢
  clear hw7 hin6
  subst hsz
  refine wpM_seq (piece2S hS7 hA hz6 hw7s rfl rfl rfl rfl rfl hn hn100 hown0 fun T' v w8 hT' t0 t1 t9 t10 hown8 hS8 hlow => ?_)
  show wpM _ _ _ _ _ _ _ _ _ _ _
  subst hrc
  exact pairs_C hst hS8 hA hP hn hnp hn100 ht hsp hT' t0 t1 t9 t10 hown8 (InV.keep hin7 fun a h1 h2 => hlow _ (hGlow a h1 h2)) rfl rfl (by rw [HM.out]; exact HCMP.out) hm2 hQ
end
end Go.Proofs.Ytmllcfkgkkbkpaa
/-
  MuxPairs: the walk.
-/
namespace Go.Proofs.Ytmllcfkgkkbkpaa
open Go Go.Conc Go.RowKit Go.Conc.Lib Go.ConcR.Gen
open Go.ConcN (upd upd_ne upd_same WgLive)
open Go.ConcR (KK wgBlock WgAt stA smA rd wr mk DC0)
section
variable {W : World}
set_option maxRecDepth 100000 in
set_option maxHeartbeats 8000000 in
theorem muxPairs_ends {p pp : Option Addr} {L : List (List Int)} {picks : List Int} {n np c cp : Nat} (hsh : W.ShapedOpen Try.prog) (hA0 : InLs W p L) (hp0 : InI W pp picks) (hn : L.length = n) (hnp : picks.length = np) (hsl : total L + L.length ≤ 1048576) (hsp : picks.length ≤ 1048576) :
    Ends Try.prog (PostT W) (crowd #[G (Frame.enter Try.prog 4 #[.slice p n c, .slice pp np cp] .normal) []] W none) #[] := by
  refine law_ends hsh fun σ pw hst hid => ?_
  have hA := hA0.start hst
  have hP := hp0.start hst
  have hG : ∀ b, σ.F b → Try.prog.globals.size ≤ b := fun b hb => (hid.fb b hb).1
  refine mv_bodyG (cc := bodyPr) Try.func4 bodyPr_eq (fun Q hQ => ?_)
  rw [ntPr, app112_2]
  obtain ⟨pc, hpc⟩ : ∃ x, x = piecePr := ⟨_, rfl⟩
  obtain ⟨rb, hrb⟩ : ∃ x, x = restB := ⟨_, rfl⟩
  have hbody : bodyPr = .seq (match bodyPr with | .seq x _ => x | _ => .skip) (.seq (match bodyPr with | .seq _ (.seq x _) => x | _ => .skip) (.seq (match bodyPr with | .seq _ (.seq _ (.seq x _)) => x | _ => .skip) (.seq (match bodyPr with | .seq _ (.seq _ (.seq _ (.seq x _))) => x | _ => .skip) (.seq piecePr restB)))) := rfl
  rw [hbody, ← hpc, ← hrb]
  clear hbody
  simp only [bodyPr, Try.f4, Option.getD_some]
  refine wpM_seq (wpM_region ?_)
  simp only [List.size_toArray, List.length_cons, List.length_nil, Nat.zero_add, List.range, List.range.loop]
  refine opsM_k calmM hG rfl rfl rfl (fun t d K hK => ?_)
  go_simp
  refine hK _ _ (opsM_re ?_)
  clear hK
  walk_nrm
  refine opsM_nil ?_
  show wpM _ _ _ _ _ _ _ _ _ _ _
  refine wpM_seq (wpM_seq (wpM_region ?_))
  simp only [List.size_toArray, List.length_cons, List.length_nil, Nat.reduceAdd, Nat.zero_add, List.range, List.range.loop]
  refine opsM_enter (f := 9) rfl rfl (by intro c e; cases e) (fun w => run_enterOp rfl Try.func9 nmAl rfl w) (fun base cs hb => ?_)
  walk_nrm
  refine aliveM hid (by omega) fun σ1 w1 hS1 => hb _ _ _ ?_
  clear hb
  replace hG : ∀ b, σ1.F b → Try.prog.globals.size ≤ b := fun b hb => (hS1.idle.fb b hb).1
  walk_nrm
  refine opsM_k calmM hG rfl rfl rfl (fun t d K hK => ?_)
  go_simp
  refine hK _ _ (opsM_re ?_)
  clear hK
  walk_nrm
  refine opsM_nil ?_
  show wpM _ _ _ _ _ _ _ _ _ _ _
  refine wpM_cond (t := false) rfl ?_
  simp only [Bool.false_eq_true, ↓reduceIte]
  refine wpM_skip ?_
  show wpM _ _ _ _ _ _ _ _ _ _ _
  refine wpM_seq (wpM_seq (wpM_region ?_))
  simp only [List.size_toArray, List.length_cons, List.length_nil, Nat.reduceAdd, Nat.zero_add, List.range, List.range.loop]
  refine opsM_k calmM hG rfl rfl rfl (fun t d K hK => ?_)
  go_simp
  refine hK _ _ (opsM_re ?_)
  clear hK
  walk_nrm
  refine opsM_enter (f := 10) rfl rfl (by intro c e; cases e) (fun w => run_enterOp rfl Try.func10 nmMA rfl w) (fun base cs hb => ?_)
  walk_nrm
  refine manyS hS1.idle (hA.since hS1) hn (by omega) (by omega) fun w2 hS2 => hb _ _ _ ?_
  clear hb
  have hS2' := hS1.trans hS2
  by_cases hbig : 100 < n ∨ 2000 < total L
  · rw [decide_eq_true hbig]
    walk_nrm
    refine opsM_nil ?_
    show wpM _ _ _ _ _ _ _ _ _ _ _
    refine wpM_cond (t := true) (by first | rfl | (simp [Act.eval]; omega)) ?_
    simp only [↓reduceIte]
    refine wpM_seq (wpM_region ?_)
    simp only [List.size_toArray, List.length_cons, List.length_nil, Nat.zero_add, List.range, List.range.loop]
    refine opsM_k calmM hG rfl rfl rfl (fun t d K hK => ?_)
    go_simp
    refine hK _ _ (opsM_re ?_)
    clear hK
    walk_nrm
    refine opsM_nil ?_
    show wpM _ _ _ _ _ _ _ _ _ _ _
    exact wpM_ret (hQ _ _ _ fun k' => law_true hst hS2' rfl Try.func4 iniPr (r := 4) rfl rfl)
  rw [decide_eq_false hbig]
  walk_nrm
  refine opsM_nil ?_
  show wpM _ _ _ _ _ _ _ _ _ _ _
  refine wpM_cond (t := false) (by first | rfl | (simp [Act.eval]; omega)) ?_
  simp only [Bool.false_eq_true, ↓reduceIte]
  refine wpM_skip ?_
  show wpM _ _ _ _ _ _ _ _ _ _ _
  have hn100 : n ≤ 100 := by omega
  have ht2000 : total L ≤ 2000 := by omega
  have hlb := lens_boundP ht2000
  clear hbig
  refine wpM_seq (wpM_region ?_)
  simp only [List.size_toArray, List.length_cons, List.length_nil, Nat.reduceAdd, Nat.zero_add, List.range, List.range.loop]
  refine opsM_k calmM hG rfl rfl rfl (fun t d K hK => ?_)
  go_simp
  refine hK _ _ ?_
  clear hK
  walk_nrm
  rw [re_alloc]
  refine opsM_re ?_
  try simp only [re_size]
  refine opsM_k calmM hG rfl rfl rfl (fun t d K hK => ?_)
  go_simp
  refine hK _ _ (opsM_re ?_)
  clear hK
  walk_nrm
  refine opsM_nil ?_
  show wpM _ _ _ _ _ _ _ _ _ _ _
  have hown0 := Pr.OwnPs.made w2
  have hS3 := hS2'.alloc (.cells #[] 32)
  obtain ⟨w3, hw3⟩ : ∃ x, x = w2.alloc (.cells #[] 32) := ⟨_, rfl⟩
  have hw3s : w2.heap.size ≤ w3.heap.size := by rw [hw3]; simp
  rw [← hw3] at hown0 hS3 ⊢
  clear hw3
  have hz2 := hS2'.size
  subst hpc
  refine wpM_seq (piece1S hS3 hA hz2 hw3s rfl rfl rfl rfl hn hn100 hlb hown0 fun T' v5 w4 hT' t0 t1 t5 hown4 hS4 => ?_)
  show wpM _ _ _ _ _ _ _ _ _ _ _
  subst hrb
  exact pairs_B hst hS4 hA hP hn hnp hn100 ht2000 (by omega) hT' t0 t1 t5 hown4 (by omega) hQ
end
end Go.Proofs.Ytmllcfkgkkbkpaa
