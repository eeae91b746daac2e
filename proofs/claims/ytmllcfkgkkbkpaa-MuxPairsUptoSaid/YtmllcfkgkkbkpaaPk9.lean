/-
  Stream's CLOSURE, whole.
-/
import Derived.Test.YtmllcfkgkkbkpaaHvStrM
import Derived.Test.YtmllcfkgkkbkpaaPk2
import Derived.Test.YtmllcfkgkkbkpaaRows
import Derived.Test.YtmllcfkgkkbkpaaPk8
import Derived.ChangeOld
import Derived.ShutString
import Derived.Carry
import Derived.SizedLaws
import Derived.Lib.SmallJoins
import Derived.Conc.LeavingOf
import Derived.Deep.Slices
import Derived.Deep.SlicePairs
import Derived.JoinedCond
namespace Go.Proofs.Ytmllcfkgkkbkpaa
open Go Go.Conc Go.RowKit Go.Conc.Lib Go.ConcR.Gen
open Go.ConcN (upd upd_ne upd_same WgLive)
open Go.ConcR (KK wgBlock WgAt stA smA rd wr mk DC0)
/-- Between two phases. -/
structure Idle (σ : Ph) (w : World) (room : Nat) : Prop where
  tag : σ.tag = .idle
  n : σ.n = 0
  d0 : σ.d0 = 0
  fb : ∀ x, σ.F x → Try.prog.globals.size ≤ x ∧ x < w.heap.size
  sw : ∀ x, σ.SW x → σ.F x
  layF : ∀ x, (σ.lay x).isSome = true → σ.F x
  gs : Try.prog.globals.size ≤ w.heap.size
  room : room ≤ σ.room
  al : σ.al = false
/-- What a phase leaves. -/
structure Later (σ0 : Ph) (w0 : World) (σ : Ph) : Prop where
  f : ∀ x, σ0.F x → σ.F x
  f' : ∀ x, σ.F x → σ0.F x ∨ w0.heap.size ≤ x
  lay : ∀ x o, σ0.lay x = some o → σ.lay x = some o
  sw : ∀ x, σ.SW x → σ0.SW x ∨ w0.heap.size ≤ x
theorem Later.refl (σ : Ph) (w : World) : Later σ w σ := ⟨fun _ h => h, fun _ h => .inl h, fun _ _ h => h, fun _ h => .inl h⟩
theorem Later.trans {σ0 σ1 σ2 : Ph} {w0 w1 : World} (h : Later σ0 w0 σ1) (k : Later σ1 w1 σ2) (hw : w0.heap.size ≤ w1.heap.size) : Later σ0 w0 σ2 :=
  ⟨fun x hx => k.f x (h.f x hx), fun x hx => (k.f' x hx).elim (h.f' x) fun y => .inr (by omega), fun x o hx => k.lay x o (h.lay x o hx), fun x hx => (k.sw x hx).elim (h.sw x) fun y => .inr (by omega)⟩
theorem Idle.grow {σ : Ph} {w w' : World} {room : Nat} (h : Idle σ w room) (hs : w.heap.size ≤ w'.heap.size) : Idle σ w' room :=
  ⟨h.tag, h.n, h.d0, fun x hx => ⟨(h.fb x hx).1, by have := (h.fb x hx).2; omega⟩, h.sw, h.layF, by have := h.gs; omega, h.room, h.al⟩
theorem Idle.layb {σ : Ph} {w : World} {room : Nat} (h : Idle σ w room) : ∀ x, (σ.lay x).isSome = true → x < w.heap.size := fun x hx => (h.fb x (h.layF x hx)).2
theorem ItemsAt.later {σ σ' : Ph} {a0 : Option Addr} {n : Nat} {items : List Value} (h : ItemsAt σ a0 n items) (hl : ∀ x o, σ.lay x = some o → σ'.lay x = some o) (hs : ∀ x, (σ.lay x).isSome = true → σ'.SW x → σ.SW x) : ItemsAt σ' a0 n items :=
  ⟨h.len, h.small, h.nil, fun ad h1 h2 => let ⟨ob, h3, h4, h5⟩ := h.row ad h1 h2; ⟨ob, hl _ _ h3, fun e => h4 (hs _ (by rw [h3]; rfl) e), h5⟩⟩
theorem OwnAt.later {σ σ' : Ph} {w w' : World} {ao : Option Addr} {N : Nat} {lists : List (List Value)} (h : OwnAt σ w ao N lists) (hl : ∀ x o, σ.lay x = some o → σ'.lay x = some o) (hs : ∀ x, (σ.lay x).isSome = true → σ'.SW x → σ.SW x)
    (hw : ∀ ad, ao = some ad → ad.block < w.heap.size → w'.heap[ad.block]? = w.heap[ad.block]?) (hsz : w.heap.size ≤ w'.heap.size) : OwnAt σ' w' ao N lists :=
  ⟨h.len, h.small, fun i items hi => let ⟨ad, a0, n, c, h1, h2, h3, h4⟩ := h.row i items hi; ⟨ad, a0, n, c, h1, by omega, (World.cell?_of_block (by rw [add_blk]; exact hw ad h1 h2)).trans h3, h4.later hl hs⟩⟩
section
variable {Post : Value → World → Prop} {σ σ1 : Ph} {pw pw0 : World} {Q : Exit → Act → Ph → World → Prop} {fn : Frame → Prop} {l bo bp N k s1 pn pc cap : Nat} {pa ao : Option Addr} {picks : List Int} {c6 c7 : Value} {All : List (Nat × Value)} {B0 : Nat → Prop} {r : Loop} {I J : (Nat → Prop) → List (Nat × Value) → World → Prop} {a : Act} {lists : List (List Value)} {c : Frame} {cs : List Frame}
theorem inv2_total (hI : Inv2 B0 pw0 σ1 s1 l bp picks N c6 c7 All I k a σ pw) : All.length = k + total (remsOf σ.rem σ1.first N) := by
  obtain ⟨T, ρ, dn, B, rfl, hT, t0, t2, t6, t7, t10, rfl, own6, own7, hdk, hAll, _⟩ := hI
  rw [hAll, List.length_append, hdk, things_len]
theorem strLoop2 (hC : Caller Post l r All I J) (hN : N < 1000000) (htot : All.length < 4000000000000000000) (hs1 : pw0.heap.size ≤ s1) (hbp : pw0.cell? ⟨bp, 0, none⟩ = some (.slice pa pn pc)) (hpicks : InI pw0 pa picks) (hpn : picks.length = pn) (hbB : ¬ B0 bp) (hpB : ∀ ad, pa = some ad → 0 < pn → ¬ B0 ad.block)
    (htag : σ1.tag = .opn false) (hcl : σ1.closed = false) (hn1 : σ1.n = N) (hI : Inv2 B0 pw0 σ1 s1 l bp picks N c6 c7 All I 0 a σ pw)
    (hret : ∀ a' σ' pw', Out2 B0 pw0 σ1 All I J a' σ' pw' → Q .ret a' σ' pw') :
    wpM Try.prog wtG zI zS Post fn (.block 2 (.loop loopT2)) Q a σ pw := by
  refine wpM_block (wpM_loop (fun a σ pw => ∃ k, Inv2 B0 pw0 σ1 s1 l bp picks N c6 c7 All I k a σ pw) (fun _ σ _ => total (remsOf σ.rem σ1.first N)) ⟨0, hI⟩ fun a σ pw hI => ?_)
  obtain ⟨k, hI⟩ := hI
  have hk := inv2_total hI
  refine wpM_mono (strRound2 hC hN htot hs1 hbp hpicks hpn hbB hpB htag hcl hn1 hI (Q := inBlockM 2 Q) hret) fun e a' σ' pw' q => ?_
  cases e with
  | normal =>
    obtain ⟨hI', hl⟩ := q
    have := inv2_total hI'
    exact ⟨⟨k + 1, hI'⟩, by omega⟩
  | exit id => exact q
  | ret => exact q
  | goto l => exact q
  | panic ch => exact q
  | outgrown => exact q
theorem restT_eq : restT = .seq (.region 13 #[{ dst := some 10, op := .assign (.const (.int .i64 0)), type := 3, pos := "mux.go:60", after := #[], guard := none }] false) (.block 2 (.loop loopT2)) := rfl
set_option maxRecDepth 100000 in
set_option maxHeartbeats 2000000 in
/-- From the end of the first loop. -/
theorem strRest {σ0 : Ph} {w0 : World} (hC : Caller Post l r All I J) (hN : N < 1000000) (htot : All.length < 4000000000000000000) (hbp : pw0.cell? ⟨bp, 0, none⟩ = some (.slice pa pn pc)) (hpicks : InI pw0 pa picks) (hpn : picks.length = pn) (hbB : ¬ B0 bp) (hpB : ∀ ad, pa = some ad → 0 < pn → ¬ B0 ad.block)
    (hlen : lists.length = N) (hAll : All = things lists picks 0) (hs1 : pw0.heap.size ≤ w0.heap.size) (hw0 : ∀ x, x < pw0.heap.size → w0.heap[x]? = pw0.heap[x]?) (ho0 : w0.os = pw0.os) (hu0 : w0.output = pw0.output) (hI0 : I B0 [] pw0) (hB0 : ∀ x, B0 x → x < pw0.heap.size ∧ ¬ σ0.F x)
    (hI : Inv1 σ0 w0 l bo bp ao N cap lists N a σ pw)
    (hret : ∀ σ1 w1 a' σ' pw', Ph1 σ0 w0 lists N σ1 w1 → Out2 B0 pw0 σ1 All I J a' σ' pw' → Q .ret a' σ' pw') : wpM Try.prog wtG zI zS Post fn restT Q a σ pw := by
  obtain ⟨T, c6, c7, rfl, hT, t0, t1, t2, t4, t5, t6, t7, t17, t18, t19, own6, own7, hp⟩ := hI
  have hG : ∀ b, σ.F b → Try.prog.globals.size ≤ b := fun b hb => (hp.fb b hb).1
  rw [restT_eq]
  refine wpM_seq (wpM_region ?_)
  simp only [List.size_toArray, List.length_cons, List.length_nil, Nat.zero_add, List.range, List.range.loop]
  refine opsM_k calmM hG rfl rfl rfl (fun t d K hK => ?_)
  go_simp
  refine hK _ _ (opsM_re ?_)
  clear hK
  refine opsM_nil ?_
  show wpM _ _ _ _ _ _ _ _ _ _ _
  have hrem : remsOf σ.rem σ.first N = lists := remsOf_eq hlen fun i items hi hl => by rw [hp.first]; exact hp.rem i items hi hl
  have hw : ∀ x, x < pw0.heap.size → pw.heap[x]? = pw0.heap[x]? := fun x hx => (hp.low x (by omega)).trans (hw0 x hx)
  have hsz : pw0.heap.size ≤ pw.heap.size := Nat.le_trans hs1 hp.size
  have hgr : Grew B0 pw0 B0 pw := ⟨hsz, fun x hx _ => hw x hx, fun x hx => ⟨by have := (hB0 x hx).1; omega, .inl hx⟩, hp.os.trans ho0, hp.output.trans hu0⟩
  have low : ∀ {v : Value} {e n : Nat} {xs : List Value}, pw.ownsRow w0.heap.size e 1 v n xs → ∀ x, B0 x → some x ≠ v.ownBlock := fun ho x hx e => by
    have := (ho.lt x e.symm).1
    have := (hB0 x hx).1
    omega
  refine strLoop2 (σ1 := σ) (pw0 := pw0) (B0 := B0) (s1 := w0.heap.size) (N := N) (c6 := c6) (c7 := c7) hC hN htot hs1 hbp hpicks hpn hbB hpB hp.tag hp.closed hp.n ⟨T.setIfInBounds 10 (.int .i64 ((0 : Nat) : Int)), σ.rem, [], B0, ?_, ?_, ?_, ?_, ?_, ?_, ?_, rfl, ?_, ?_, rfl, ?_, hC.stab B0 [] pw0 pw hI0 (fun x hx => hw x (hB0 x hx).1) hsz, hgr, fun x hx => ⟨low own6 x hx, low own7 x hx, fun e => ?_⟩, fun x hx => hp.fb x hx⟩ fun a' σ' pw' ho => hret σ pw a' σ' pw' hp ho
  · show Act.put ⟨T, _⟩ (some 10) _ = _
    rw [hp.quit, hp.wg]
    rfl
  · simp [hT]
  · rw [Array.getElem?_setIfInBounds_ne (by decide)]; exact t0
  · rw [Array.getElem?_setIfInBounds_ne (by decide)]; exact t2
  · rw [Array.getElem?_setIfInBounds_ne (by decide)]; exact t6
  · rw [Array.getElem?_setIfInBounds_ne (by decide)]; exact t7
  · rw [Array.getElem?_setIfInBounds_self_of_lt (by omega)]
  · rw [hp.first]; exact own6
  · rw [hrem]
    have e : lists.take N = lists := List.take_of_length_le (by omega)
    rw [e] at own7
    unfold OwnI
    rw [lens_length, hlen]
    have e2 : iv (lens lists) = lists.map fun x => Value.int .i64 x.length := by simp [iv, lens]
    rw [e2]
    exact own7
  · rw [hrem]; exact hAll
  · rcases hp.f1 x e with h | h
    · exact (hB0 x hx).2 h
    · have := (hB0 x hx).1
      omega
theorem bodyTf : Try.f22.body = some bodyT := rfl
theorem headW_size {P : Program} {pw : World} : (headW P pw).heap.size = pw.heap.size + 2 := by
  simp only [headW, headW0, killW_size, World.size_alloc]
theorem headW_low {P : Program} {pw : World} {x : Nat} (h : x < pw.heap.size) : (headW P pw).heap[x]? = pw.heap[x]? := by
  unfold headW
  rw [kill_ne (by omega), headW0_low h]
/-- The phase at its beginning. -/
abbrev σH (σ : Ph) (s : Nat) : Ph := begun1 (grouped σ s (wgBlock wtG 0 0)) s (s + 1)
theorem σH_lay {σ : Ph} {s x : Nat} {o : Obj} (hs : x < s) (h : σ.lay x = some o) : (σH σ s).lay x = some o := by
  simp only [σH, begun1, grouped, freeze]
  rw [upd_ne _ _ (by omega), upd_ne _ _ (by omega)]
  exact h
theorem σH_layS {σ : Ph} {s x : Nat} (h : ((σH σ s).lay x).isSome = true) : (σ.lay x).isSome = true := by
  simp only [σH, begun1, grouped, freeze] at h
  by_cases e : x = s
  · subst e; rw [upd_same] at h; cases h
  · rwa [upd_ne _ _ e, upd_ne _ _ e] at h
set_option maxRecDepth 100000 in
/-- ████ Stream's CLOSURE, FROM ITS ENTRY. ████ -/
theorem strM (hC : Caller Post l r All I J) (hid : Idle σ pw N) (hown : pw.cell? ⟨bo, 0, none⟩ = some (.slice ao N cap)) (hO : OwnAt σ pw ao N lists) (hbp : pw.cell? ⟨bp, 0, none⟩ = some (.slice pa pn pc)) (hpicks : InI pw pa picks) (hpn : picks.length = pn)
    (hAll : All = things lists picks 0) (htot : total lists < 4000000000000000000) (hI0 : I B0 [] pw) (hB0 : ∀ x, B0 x → x < pw.heap.size ∧ ¬ σ.F x) (hbB : ¬ B0 bp) (hpB : ∀ ad, pa = some ad → 0 < pn → ¬ B0 ad.block)
    (hn : ∀ σ' B d pw', Idle σ' pw' (σ.room - N) → Later σ pw σ' → ((I B d pw' ∧ d = All) ∨ (J B d pw' ∧ ∃ rest, All = d ++ rest)) → Grew B0 pw B pw' → (∀ x, B x → ¬ σ'.F x) → MV Try.prog wtG zI zS Post σ' (G (c.finish (.tuple #[])) cs) pw') :
    MV Try.prog wtG zI zS Post σ (G (Frame.enter Try.prog 22 #[.func (.yield l) #[] #[], .pointer (some ⟨bo, 0, none⟩), .pointer (some ⟨bp, 0, none⟩)] .normal) (c :: cs)) pw := by
  refine mv_bodyO (cc := bodyT) Try.func22 bodyTf (fun Q hQ => ?_)
  rw [ntT, app75]
  have hbo : bo < pw.heap.size := World.block_lt_of_cell? pw _ hown
  have hFl : ∀ b, σ.F b → b < pw.heap.size := fun b hb => (hid.fb b hb).2
  have hO' : OwnAt (σH σ pw.heap.size) (headW Try.prog pw) ao N lists := hO.later (fun x o hx => σH_lay (hid.layb x (by rw [hx]; rfl)) hx) (fun x hx hs => by
    rcases hs with hs | hs
    · exact hs
    · have := hid.layb x hx
      omega) (fun ad _ hl => headW_low hl) (by rw [headW_size]; omega)
  have hlen : lists.length = N := hO.len
  refine strHead (fun b hb => hb.2) (fun b hb => (hid.fb b hb).1) hid.gs hFl hid.tag hbo hown (fun T hT t0 t1 t2 t4 t5 t6 t7 t17 t18 t19 => ?_)
  refine strLoop1 (σ0 := σH σ pw.heap.size) (w0 := headW Try.prog pw) (l := l) (bo := bo) (bp := bp) (cap := cap) hO' (fun b hb => ?_) (by rw [headW_size]; have := hid.gs; omega) (.inr rfl) (.inl (.inr rfl)) hid.room ⟨T, _, _, rfl, hT, t0, t1, t2, t4, t5, t6, t7, t17, t18, t19, World.ownsRow_nil _ _ _ _, World.ownsRow_nil _ _ _ _, ?_⟩ (fun a1 σ1 w1 hI1 => ?_)
  · rw [headW_size]
    rcases hb with hb | hb
    · have := hFl b (hid.sw b hb)
      omega
    · omega
  · refine ⟨rfl, hid.n, rfl, rfl, rfl, rfl, hid.d0, rfl, rfl, fun _ _ h => h, fun i _ hi => absurd hi (by omega), fun _ h => h, fun x hx => ?_, fun x hx => ?_, fun _ _ => rfl, Nat.le_refl _, rfl, rfl, fun _ h => .inl h, fun x hx => .inl (.inl (hid.layF x (σH_layS hx))), rfl⟩
    · rw [headW_size]
      have := hid.gs
      rcases hx with (hx | hx) | hx
      · have := hid.fb x hx
        exact ⟨this.1, by omega⟩
      · exact ⟨by omega, by omega⟩
      · exact ⟨by omega, by omega⟩
    · rw [headW_size]
      have := hid.layb x (σH_layS hx)
      omega
  · show wpM _ _ _ _ _ _ _ _ _ _ _
    refine strRest (pw0 := pw) (B0 := B0) (lists := lists) hC hO.small (by rw [hAll, things_len]; exact htot) hbp hpicks hpn hbB hpB hlen hAll (by rw [headW_size]; omega) (fun x hx => headW_low hx) rfl rfl hI0 (fun x hx => ⟨(hB0 x hx).1, fun h => ?_⟩) hI1 (fun σ2 w2 a' σ' pw' hp ho => hQ _ _ _ fun k' => ?_)
    · have h1 := (hB0 x hx).1
      rcases h with (h | h) | h
      · exact (hB0 x hx).2 h
      · omega
      · omega
    · obtain ⟨hd, ρ, d, B, rfl, hIJ, hgr, hBF, hfb⟩ := ho
      refine strOut (σ := { σ2 with rem := ρ }) (ats := #[58]) Try.func22 rfl (by kernel_rfl) hd hp.tag hp.d0 hp.closed (hp.f0 _ (by rw [hp.quit]; exact .inr rfl)) (hp.f0 _ (by rw [hp.wg]; exact .inl (.inr rfl))) (fun vb => ?_) k'
      refine mv_idle rfl rfl (hn _ B d pw' ⟨rfl, rfl, rfl, fun x hx => hfb x hx, fun x hx => ?_, fun x hx => hp.layF x hx, by have := hid.gs; have := hgr.size; omega, ?_, hp.al.trans hid.al⟩ ⟨fun x hx => hp.f0 x (.inl (.inl hx)), fun x hx => ?_, fun x o hx => hp.lay x o (σH_lay (hid.layb x (by rw [hx]; rfl)) hx), fun x hx => ?_⟩ hIJ hgr hBF)
      · have hx' : σ2.SW x := hx
        rw [hp.sw] at hx'
        exact hp.f0 x (hx'.elim (fun h => .inl (.inl (hid.sw x h))) fun h => .inl (.inr h))
      · have h1 := hp.room
        show σ.room - N ≤ σ2.room
        have h2 : (σH σ pw.heap.size).room = σ.room := rfl
        omega
      · rcases hp.f1 x hx with h | h
        · rcases h with (h | h) | h
          · exact .inl h
          · exact .inr (by omega)
          · exact .inr (by omega)
        · rw [headW_size] at h
          exact .inr (by omega)
      · have hx' : σ2.SW x := hx
        rw [hp.sw] at hx'
        rcases hx' with h | h
        · exact .inl h
        · exact .inr (by omega)
end
end Go.Proofs.Ytmllcfkgkkbkpaa
/-
  A RANGE OVER Stream's CLOSURE.
-/
namespace Go.Proofs.Ytmllcfkgkkbkpaa
open Go Go.Conc Go.RowKit Go.Conc.Lib Go.ConcR.Gen
open Go.ConcN (upd upd_ne upd_same WgLive)
open Go.ConcR (KK wgBlock WgAt stA smA rd wr mk DC0)
/-- The caller's state, with the loop's record. -/
def FI (l : Nat) (r : Loop) (Iu : (Nat → Prop) → List (Nat × Value) → World → Prop) (B : Nat → Prop) (d : List (Nat × Value)) (w : World) : Prop :=
  ∃ Bu : Nat → Prop, (∀ x, B x ↔ Bu x ∨ x = l) ∧ ¬ Bu l ∧ Iu Bu d w ∧ w.heap[l]? = some (.loop r)
/-- What the caller's state asks: it hangs on its blocks alone. -/
def Stable (I : (Nat → Prop) → List (Nat × Value) → World → Prop) : Prop := ∀ B d w w', I B d w → (∀ x, B x → w'.heap[x]? = w.heap[x]?) → w.heap.size ≤ w'.heap.size → I B d w'
theorem FI.stab {l : Nat} {r : Loop} {Iu : (Nat → Prop) → List (Nat × Value) → World → Prop} (h : Stable Iu) : Stable (FI l r Iu) := by
  rintro B d w w' ⟨Bu, h1, h2, h3, h4⟩ hw hs
  exact ⟨Bu, h1, h2, h _ _ _ _ h3 (fun x hx => hw x ((h1 x).2 (.inl hx))) hs, (hw l ((h1 l).2 (.inr rfl))).trans h4⟩
theorem putObj_self {w : World} {l : Nat} {o : Obj} (h : l < w.heap.size) : (w.putObj l o).heap[l]? = some o := by
  simp [World.putObj, h]
theorem putObj_os {w : World} {l : Nat} {o : Obj} : (w.putObj l o).os = w.os ∧ (w.putObj l o).output = w.output ∧ (w.putObj l o).heap.size = w.heap.size := ⟨rfl, rfl, by simp [World.putObj]⟩
section
variable {Post : Value → World → Prop} {σ : Ph} {pw : World} {Q : Exit → Act → Ph → World → Prop} {fn : Frame → Prop} {bo bp N pn pc cap f0 idx : Nat} {pa ao : Option Addr} {picks : List Int} {All : List (Nat × Value)} {B0 : Nat → Prop} {Iu Ju : (Nat → Prop) → List (Nat × Value) → World → Prop} {a : Act} {lists : List (List Value)} {gop : Operand} {ps : Array Tmp} {assign body : Code}
/-- The frames of the rounds. -/
def rfn (f0 l : Nat) (b : Frame) : Prop := b.fn = f0 ∧ b.roundOf = some l ∧ b.kind = .normal
variable (Post) in
/-- What a round is to do. -/
def RoundOk (f0 l idx : Nat) (All : List (Nat × Value)) (Iu Ju : (Nat → Prop) → List (Nat × Value) → World → Prop) (T : Array Value) (ps : Array Tmp) (assign body : Code) : Prop :=
  ∀ B d (i : Nat) v rest (σ : Ph) pw, All = d ++ (i, v) :: rest → Iu B d pw → (∀ x, B x → x < pw.heap.size ∧ ¬ σ.F x) → (∀ x, σ.F x → Try.prog.globals.size ≤ x ∧ x < pw.heap.size) →
    wpM Try.prog wtG zI zS Post (rfn f0 l) assign (fun e a2 σ2 pw2 => e = .normal ∧ σ = σ2 ∧ pw = pw2 ∧ ∀ pw3, Iu B d pw3 → pw3.heap.size = pw.heap.size →
      wpM Try.prog wtG zI zS Post (rfn f0 l) body (fun e _a3 σ3 pw4 => σ = σ3 ∧ ((e = .normal ∧ ∃ B', Iu B' (d ++ [(i, v)]) pw4 ∧ Grew B pw3 B' pw4) ∨ (e = .exit idx ∧ ∃ B', Ju B' (d ++ [(i, v)]) pw4 ∧ Grew B pw3 B' pw4))) a2 σ pw3) ⟨(ps.zip #[Value.int .i64 i, v]).foldl (fun tmps (t, a) => tmps.setIfInBounds t a) T, []⟩ σ pw
theorem caller_of {l : Nat} {r : Loop} (hs : r.state = .ready) (hpd : r.pending = none) (hfn : r.fn = f0) (hps : r.params.size = 2) (hI : Stable Iu) (hJ : Stable Ju) (hR : RoundOk Post f0 l idx All Iu Ju r.tmps r.params r.assign r.body) :
    Caller Post l r All (FI l r Iu) (FI l { r with state := .done, pending := some (.exit idx) } Ju) := by
  refine ⟨FI.stab hI, FI.stab hJ, fun B d w h => ?_, hps, ?_⟩
  · obtain ⟨Bu, h1, _, _, h4⟩ := h
    exact ⟨(h1 l).2 (.inr rfl), h4⟩
  · rintro B d i v rest σ pw base cs hAll ⟨Bu, hB, hl, hIu, hrec⟩ hBF hF htag ht hf
    have hlB := hBF l ((hB l).2 (.inr rfl))
    have hBu : ∀ x, Bu x → x < pw.heap.size ∧ ¬ σ.F x := fun x hx => hBF x ((hB x).2 (.inl hx))
    let bf : Frame := { (default : Frame) with fn := r.fn, roundOf := some l, kind := .normal }
    have he : Frame.round l r.fn ((r.params.zip #[Value.int .i64 i, v]).foldl (fun tmps (t, a) => tmps.setIfInBounds t a) r.tmps) r.assign r.body .normal = bf.atR ⟨(r.params.zip #[Value.int .i64 i, v]).foldl (fun tmps (t, a) => tmps.setIfInBounds t a) r.tmps, []⟩ [.code r.assign, .beginRound, .code r.body] := rfl
    rw [he]
    have hbf : rfn f0 l bf := ⟨hfn, rfl, rfl⟩
    refine hR Bu d i v rest σ pw hAll hIu hBu hF bf [.beginRound, .code r.body] (base :: cs) hbf (fun e => by cases e) fun e a2 σ2 pw2 hq => ?_
    obtain ⟨rfl, rfl, rfl, hb⟩ := hq
    show MV _ _ _ _ _ σ (G (bf.atR a2 [.beginRound, .code r.body]) (base :: cs)) pw
    refine mv_beginRound rfl (fun e => by cases e) hlB.2 hrec hs ?_
    have hbusy : (pw.putObj l (.loop { r with state := .busy })).heap[l]? = some (.loop { r with state := .busy }) := putObj_self hlB.1
    have hIb := hI Bu d pw (pw.putObj l (.loop { r with state := .busy })) hIu (fun x hx => putObj_ne fun e => hl (e ▸ hx)) (by rw [putObj_os.2.2]; exact Nat.le_refl _)
    have hsz : (pw.putObj l (.loop { r with state := .busy })).heap.size = pw.heap.size := putObj_os.2.2
    have hoth : ∀ x, x ≠ l → (pw.putObj l (.loop { r with state := .busy })).heap[x]? = pw.heap[x]? := fun x hx => putObj_ne hx
    have hosb : (pw.putObj l (.loop { r with state := .busy })).os = pw.os ∧ (pw.putObj l (.loop { r with state := .busy })).output = pw.output := ⟨rfl, rfl⟩
    refine hb _ hIb hsz bf [] (base :: cs) hbf (fun e => by cases e) fun e a3 σ3 pw3 hq => ?_
    obtain ⟨rfl, hq⟩ := hq
    have fin : ∀ (K : (Nat → Prop) → List (Nat × Value) → World → Prop) (r' : Loop) (B' : Nat → Prop), Stable K → K B' (d ++ [(i, v)]) pw3 → Grew Bu (pw.putObj l (.loop { r with state := .busy })) B' pw3 →
        pw3.heap[l]? = some (.loop { r with state := .busy }) ∧ FI l r' K (fun x => B' x ∨ x = l) (d ++ [(i, v)]) (pw3.putObj l (.loop r')) ∧ Grew B pw (fun x => B' x ∨ x = l) (pw3.putObj l (.loop r')) := fun K r' B' hK hK' hgr => by
      have h3 : pw3.heap[l]? = some (.loop { r with state := .busy }) := (hgr.low l (by rw [hsz]; exact hlB.1) hl).trans hbusy
      have hl3 : l < pw3.heap.size := (Array.getElem?_eq_some_iff.1 h3).1
      have hB'l : ¬ B' l := fun h => by
        rcases (hgr.own l h).2 with h | h
        · exact hl h
        · rw [hsz] at h
          have := hlB.1
          omega
      refine ⟨h3, ⟨B', fun x => Iff.rfl, hB'l, hK _ _ _ _ hK' (fun x hx => putObj_ne fun e => hB'l (e ▸ hx)) (by rw [putObj_os.2.2]; exact Nat.le_refl _), putObj_self hl3⟩, ?_, fun x hx hnB => ?_, fun x hx => ?_, hgr.os.trans hosb.1, hgr.output.trans hosb.2⟩
      · rw [putObj_os.2.2]
        have := hgr.size
        omega
      · have hxl : x ≠ l := fun e => hnB ((hB x).2 (.inr e))
        rw [putObj_ne hxl, hgr.low x (by omega) fun h => hnB ((hB x).2 (.inl h)), hoth x hxl]
      · rw [putObj_os.2.2]
        rcases hx with hx | rfl
        · obtain ⟨h5, h6⟩ := hgr.own x hx
          refine ⟨h5, h6.imp (fun h => (hB x).2 (.inl h)) fun h => by omega⟩
        · exact ⟨hl3, .inl ((hB x).2 (.inr rfl))⟩
    rcases hq with ⟨rfl, B', hI', hgr⟩ | ⟨rfl, B', hJ', hgr⟩
    · obtain ⟨h3, h4, h5⟩ := fin Iu { r with state := .ready, pending := none } B' hI hI' hgr
      show MV _ _ _ _ _ σ (G (bf.atR a3 []) (base :: cs)) pw3
      refine mv_endRound rfl rfl hlB.2 h3 ?_
      have e : ({ r with state := .ready, pending := none } : Loop) = r := by
        obtain ⟨s, p, _, _, _, _, _, _⟩ := r
        simp only at hs hpd
        subst hs hpd
        rfl
      have e2 : ({ ({ r with state := .busy } : Loop) with state := .ready, pending := none } : Loop) = { r with state := .ready, pending := none } := rfl
      rw [e2]
      rw [e] at h4 h5 ⊢
      exact ht _ _ h4 h5
    · obtain ⟨h3, h4, h5⟩ := fin Ju { r with state := .done, pending := some (.exit idx) } B' hJ hJ' hgr
      show AfterM _ _ _ _ _ _ _ _ _ _ _ _
      dsimp only [AfterM, exitTo]
      intro k' hk'
      refine mv_exitRound rfl rfl hk' hlB.2 h3 ?_
      exact hf _ _ h4 h5
theorem nmStr1 : (Try.f22.name == "runtime.NumGoroutine") = false := by kernel_rfl
def dRange (bo bp l : Nat) : Deferred := { target := .fn (.func 22) #[.pointer (some ⟨bo, 0, none⟩), .pointer (some ⟨bp, 0, none⟩)], args := #[.func (.yield l) #[] #[]] }
theorem res_range (hg : a.eval gop = .func (.func 22) #[] #[.pointer (some ⟨bo, 0, none⟩), .pointer (some ⟨bp, 0, none⟩)]) (l : Nat) (w : World) :
    (resolve a.eval (rangeCall gop l) 0).run Try.prog w = .ok (dRange bo bp l) w ∧ (resolve a.eval (rangeCall gop l) 0).events Try.prog w #[] = #[] := by
  have hv : a.eval (.const (.func (.yield l) #[] #[])) = .func (.yield l) #[] #[] := rfl
  generalize a.eval = ev at hg hv
  constructor <;> simp [resolve, hg, hv, Deferred.ofValue, dRange, go_sem]
theorem inv_range (l : Nat) (w : World) : (invoke (dRange bo bp l).target (dRange bo bp l).args).run Try.prog w = .ok (.enter 22 #[.func (.yield l) #[] #[], .pointer (some ⟨bo, 0, none⟩), .pointer (some ⟨bp, 0, none⟩)]) w ∧ (invoke (dRange bo bp l).target (dRange bo bp l).args).events Try.prog w #[] = #[] := by
  have h1 : ¬ Try.f22.name = "runtime.NumGoroutine" := by simpa using nmStr1
  have hb : Try.f22.body = some bodyT := bodyTf
  constructor <;> simp [dRange, invoke, callFunc, Try.func22, h1, hb, go_sem]
abbrev markD (s : Nat) : Deferred := { target := .collected s, args := #[] }
/-- ████ A RANGE OVER Stream's CLOSURE. ████ -/
theorem wpM_range (hfn : ∀ b, fn b → b.roundOf = none ∧ b.fn = f0) (hg : a.eval gop = .func (.func 22) #[] #[.pointer (some ⟨bo, 0, none⟩), .pointer (some ⟨bp, 0, none⟩)]) (hps : ps.size = 2)
    (hid : Idle σ pw N) (hown : pw.cell? ⟨bo, 0, none⟩ = some (.slice ao N cap)) (hO : OwnAt σ pw ao N lists) (hbp : pw.cell? ⟨bp, 0, none⟩ = some (.slice pa pn pc)) (hpicks : InI pw pa picks) (hpn : picks.length = pn)
    (hAll : All = things lists picks 0) (htot : total lists < 4000000000000000000) (hI : Stable Iu) (hJ : Stable Ju) (hI0 : Iu B0 [] pw) (hB0 : ∀ x, B0 x → x < pw.heap.size ∧ ¬ σ.F x) (hbB : ¬ B0 bp) (hpB : ∀ ad, pa = some ad → 0 < pn → ¬ B0 ad.block)
    (hR : RoundOk Post f0 (pw.heap.size + 1) idx All Iu Ju a.tmps ps assign body)
    (hn : ∀ σ' B pw', Idle σ' pw' (σ.room - N) → Later σ pw σ' → Grew B0 pw B pw' → (∀ x, B x → ¬ σ'.F x) → Iu B All pw' → pw'.heap[pw.heap.size]? = some (.deferred (some [])) → ¬ σ'.F pw.heap.size → ¬ B pw.heap.size → Q .normal ⟨a.tmps, markD pw.heap.size :: a.defers⟩ σ' pw')
    (hx : ∀ σ' B d rest pw', Idle σ' pw' (σ.room - N) → Later σ pw σ' → Grew B0 pw B pw' → (∀ x, B x → ¬ σ'.F x) → Ju B d pw' → All = d ++ rest → pw'.heap[pw.heap.size]? = some (.deferred (some [])) → ¬ σ'.F pw.heap.size → ¬ B pw.heap.size → Q (.exit idx) ⟨a.tmps, markD pw.heap.size :: a.defers⟩ σ' pw') :
    wpM Try.prog wtG zI zS Post fn (.rangeFunc gop ps assign body) Q a σ pw := by
  intro b k cs hb hk hq
  obtain ⟨hro, hfb⟩ := hfn b hb
  refine mv_rangeFunc hro hk (fun l w => res_range hg l w) (fun l w => inv_range l w) ?_
  let r : Loop := { state := .ready, pending := none, fn := b.fn, tmps := a.tmps, params := ps, assign := assign, body := body, defers := pw.heap.size }
  let s := pw.heap.size
  let w2 := (pw.alloc (.deferred (some []))).alloc (.loop r)
  have hs2 : w2.heap.size = s + 2 := by simp only [w2, World.size_alloc]; rfl
  have hlow : ∀ x, x < s → w2.heap[x]? = pw.heap[x]? := fun x hx => by
    show ((pw.alloc (.deferred (some []))).alloc (.loop r)).heap[x]? = _
    rw [alloc_other (by simp only [World.size_alloc]; omega), alloc_other hx]
  have hd2 : w2.heap[s]? = some (.deferred (some [])) := by
    show ((pw.alloc (.deferred (some []))).alloc (.loop r)).heap[s]? = _
    rw [alloc_other (by simp only [World.size_alloc]; omega)]
    exact alloc_self
  have hl2 : w2.heap[s + 1]? = some (.loop r) := by
    have : s + 1 = (pw.alloc (.deferred (some []))).heap.size := by simp only [World.size_alloc]; rfl
    rw [this]
    exact alloc_self
  have hbl : bp < s := World.block_lt_of_cell? pw _ hbp
  have hbol : bo < s := World.block_lt_of_cell? pw _ hown
  have cellk : ∀ {x v}, pw.cell? ⟨x, 0, none⟩ = some v → w2.cell? ⟨x, 0, none⟩ = some v := fun {x v} h => (World.cell?_of_block (hlow _ (World.block_lt_of_cell? pw _ h))).trans h
  have hC := caller_of (Post := Post) (f0 := f0) (idx := idx) (All := All) (Iu := Iu) (Ju := Ju) (l := s + 1) (r := r) rfl rfl hfb hps hI hJ hR
  have hnF : ∀ x, s ≤ x → ¬ σ.F x := fun x hx h => by have := (hid.fb x h).2; omega
  have fin : ∀ (σ' : Ph) (B : Nat → Prop) (pw' : World) (K : (Nat → Prop) → List (Nat × Value) → World → Prop) (r' : Loop) (d : List (Nat × Value)), Stable K → FI (s + 1) r' K B d pw' → Later σ w2 σ' → Grew (fun x => B0 x ∨ x = s + 1) w2 B pw' → (∀ x, B x → ¬ σ'.F x) → Idle σ' pw' (σ.room - N) →
      ∃ Bu, ¬ σ'.F (s + 1) ∧ pw'.heap[s + 1]? = some (.loop r') ∧ ∀ r2, Idle σ' (pw'.putObj (s + 1) (.loop r2)) (σ.room - N) ∧ Later σ pw σ' ∧ Grew B0 pw Bu (pw'.putObj (s + 1) (.loop r2)) ∧ (∀ x, Bu x → ¬ σ'.F x) ∧ K Bu d (pw'.putObj (s + 1) (.loop r2)) ∧ (pw'.putObj (s + 1) (.loop r2)).heap[s]? = some (.deferred (some [])) ∧ ¬ σ'.F s ∧ ¬ Bu s := by
    rintro σ' B pw' K r' d hK ⟨Bu, hB, hl, hKu, hrec⟩ hlat hgr hBF hid'
    have hnF' : ∀ x, s ≤ x → x < s + 2 → ¬ σ'.F x := fun x hx hx2 h => by
      rcases hlat.f' x h with h | h
      · exact hnF x hx h
      · omega
    have hnB : ¬ Bu s := fun h => by
      rcases (hgr.own s ((hB s).2 (.inl h))).2 with h | h
      · rcases h with h | h
        · have := (hB0 s h).1
          exact absurd this (by show ¬ s < s; omega)
        · omega
      · omega
    refine ⟨Bu, hnF' _ (by omega) (by omega), hrec, fun r2 => ⟨hid'.grow (by rw [putObj_os.2.2]; exact Nat.le_refl _), ⟨hlat.f, fun x hx => (hlat.f' x hx).imp id fun h => by show s ≤ x; omega, hlat.lay, fun x hx => (hlat.sw x hx).imp id fun h => by show s ≤ x; omega⟩,
      ⟨?_, fun x hx hnb => ?_, fun x hx => ?_, hgr.os, hgr.output⟩, fun x hx => hBF x ((hB x).2 (.inl hx)), hK _ _ _ _ hKu (fun x hx => putObj_ne fun e => hl (e ▸ hx)) (by rw [putObj_os.2.2]; exact Nat.le_refl _), ?_, hnF' _ (by omega) (by omega), hnB⟩⟩
    · rw [putObj_os.2.2]
      have := hgr.size
      show s ≤ _
      omega
    · have hx' : x < s := hx
      rw [putObj_ne (by omega), hgr.low x (by omega) (fun h => h.elim hnb fun e => by omega), hlow x hx']
    · rw [putObj_os.2.2]
      obtain ⟨h1, h2⟩ := hgr.own x ((hB x).2 (.inl hx))
      refine ⟨h1, ?_⟩
      rcases h2 with (h2 | h2) | h2
      · exact .inl h2
      · exact .inr (by show s ≤ x; omega)
      · exact .inr (by show s ≤ x; omega)
    · rw [putObj_ne (by omega), hgr.low s (by omega) (fun h => h.elim (fun h => by have := (hB0 s h).1; exact absurd this (by show ¬ s < s; omega)) fun e => by omega)]
      exact hd2
  refine strM (lists := lists) (ao := ao) (cap := cap) (picks := picks) (pn := pn) (B0 := fun x => B0 x ∨ x = s + 1) hC (hid.grow (by show s ≤ w2.heap.size; omega)) (cellk hown) (hO.later (fun _ _ h => h) (fun _ _ h => h) (fun ad _ h => hlow _ h) (by show s ≤ w2.heap.size; omega)) (cellk hbp) (InV.keep hpicks fun ad h1 h2 => hlow _ (hpicks.low ad h1 h2)) hpn hAll htot ⟨B0, fun x => Iff.rfl, fun h => by have := (hB0 _ h).1; exact absurd this (by show ¬ s + 1 < s; omega), hI _ _ _ _ hI0 (fun x hx => hlow x (hB0 x hx).1) (by show s ≤ w2.heap.size; omega), hl2⟩
    (fun x hx => ?_) (fun h => h.elim hbB fun e => by omega) (fun ad h1 h2 h => h.elim (hpB ad h1 h2) fun e => ?_) (fun σ' B d pw' hid' hlat hIJ hgr hBF => ?_)
  · rcases hx with hx | rfl
    · exact ⟨by have := (hB0 x hx).1; show x < w2.heap.size; omega, (hB0 x hx).2⟩
    · exact ⟨by show s + 1 < w2.heap.size; omega, hnF _ (by omega)⟩
  · have := hpicks.low ad h1 (by rw [iv_length]; omega)
    omega
  · show MV _ _ _ _ _ σ' (G (b.atR ⟨a.tmps, markD s :: a.defers⟩ (.endRangeFunc (s + 1) :: k)) cs) pw'
    rcases hIJ with ⟨hIe, rfl⟩ | ⟨hJe, rest, hrest⟩
    · obtain ⟨Bu, hF1, hrec, hall⟩ := fin σ' B pw' Iu r d hI hIe hlat hgr hBF hid'
      obtain ⟨h1, h2, h3, h4, h5, h6, h7, h8⟩ := hall { r with state := .exhausted }
      refine mv_endRange hF1 hrec (by intro e; cases e) ?_
      exact hq _ _ _ _ (hn σ' Bu _ h1 h2 h3 h4 h5 h6 h7 h8)
    · obtain ⟨Bu, hF1, hrec, hall⟩ := fin σ' B pw' Ju _ d hJ hJe hlat hgr hBF hid'
      obtain ⟨h1, h2, h3, h4, h5, h6, h7, h8⟩ := hall { ({ r with state := .done, pending := some (.exit idx) } : Loop) with state := .exhausted }
      refine mv_endRange hF1 hrec (by intro e; cases e) ?_
      exact (wpM_exit (fn := fn) (Q := Q) (hx σ' Bu d rest _ h1 h2 h3 h4 h5 hrest h6 h7 h8)) b k cs hb hk hq
end
end Go.Proofs.Ytmllcfkgkkbkpaa
/-
  THE CLONES STAND STILL FROM NOW ON.
-/
namespace Go.Proofs.Ytmllcfkgkkbkpaa
open Go Go.Conc Go.RowKit Go.Conc.Lib Go.ConcR.Gen
open Go.ConcN (upd upd_ne upd_same WgLive)
open Go.ConcR (KK wgBlock WgAt stA smA rd wr mk DC0)
structure Frz (bs : List Nat) (σ : Ph) (pw : World) (σ' : Ph) (pw' : World) : Prop where
  same : σ' = { σ with F := σ'.F, lay := σ'.lay }
  F : ∀ x, σ'.F x ↔ σ.F x ∨ x ∈ bs
  lay : ∀ x, σ'.lay x = if x ∈ bs then pw.heap[x]? else σ.lay x
  heap : ∀ x, x ∉ bs → pw'.heap[x]? = pw.heap[x]?
  size : pw'.heap.size = pw.heap.size
  os : pw'.os = pw.os
  output : pw'.output = pw.output
section
variable {P : Program} {ty : TypeId} {z z' : Value} {Post : Value → World → Prop} {g : Goroutine}
theorem mv_freezeAll : ∀ (bs : List Nat) (σ : Ph) (pw : World), (∀ b ∈ bs, ¬ σ.F b ∧ ∃ o, pw.heap[b]? = some o ∧ objTame o = true) → (∀ σ' pw', Frz bs σ pw σ' pw' → MV P ty z z' Post σ' g pw') → MV P ty z z' Post σ g pw
  | [], σ, pw, _, h => h σ pw ⟨rfl, fun x => by simp, fun x => by simp, fun _ _ => rfl, rfl, rfl, rfl⟩
  | b :: bs, σ, pw, hb, h => by
    by_cases hin : b ∈ bs
    · refine mv_freezeAll bs σ pw (fun x hx => hb x (by simp [hx])) fun σ' pw' hf => h σ' pw' ⟨hf.same, fun x => ?_, fun x => ?_, fun x hx => hf.heap x (fun h => hx (by simp [h])), hf.size, hf.os, hf.output⟩
      · rw [hf.F x, List.mem_cons]
        exact ⟨fun h => h.imp id .inr, fun h => h.imp id fun h => h.elim (fun e => e ▸ hin) id⟩
      · rw [hf.lay x]
        by_cases hx : x ∈ bs
        · rw [if_pos hx, if_pos (by simp [hx])]
        · rw [if_neg hx, if_neg (by simp only [List.mem_cons, hx, or_false]; exact fun e => hx (e ▸ hin))]
    · obtain ⟨hF, o, ho, ht⟩ := hb b (by simp)
      refine mv_freeze hF ho ht (mv_freezeAll bs (freeze σ b o) (killW P pw b) (fun x hx => ?_) fun σ' pw' hf => h σ' pw' ?_)
      · have hne : x ≠ b := fun e => hin (e ▸ hx)
        obtain ⟨h1, o', h2, h3⟩ := hb x (by simp [hx])
        exact ⟨fun h => h.elim h1 hne, o', by rw [kill_ne hne]; exact h2, h3⟩
      · refine ⟨?_, fun x => ?_, fun x => ?_, fun x hx => ?_, hf.size.trans killW_size, hf.os, hf.output⟩
        · have := hf.same
          rw [this]
          rfl
        · rw [hf.F x, List.mem_cons]
          simp only [freeze]
          exact ⟨fun h => h.elim (fun h => h.elim .inl fun e => .inr (.inl e)) fun h => .inr (.inr h), fun h => h.elim (fun h => .inl (.inl h)) fun h => h.elim (fun e => .inl (.inr e)) .inr⟩
        · rw [hf.lay x]
          by_cases hx : x ∈ bs
          · have hne : x ≠ b := fun e => hin (e ▸ hx)
            rw [if_pos hx, if_pos (by simp [hx]), kill_ne hne]
          · rw [if_neg hx]
            by_cases e : x = b
            · subst e
              rw [if_pos (by simp)]
              simp only [freeze, upd_same]
              exact ho.symm
            · rw [if_neg (by simp [hx, e])]
              simp only [freeze]
              rw [upd_ne _ _ e]
        · have hne : x ≠ b := fun e => hx (by simp [e])
          rw [hf.heap x (fun h => hx (by simp [h])), kill_ne hne]
end
theorem StreamAt.keep {w w' : World} {base base1 bo bp g : Nat} {pa : Option Addr} {pc : Nat} {L : List (List Int)} {picks : List Int} (h : StreamAt w base base1 bo bp g pa pc L picks) (hk : ∀ x, base ≤ x → x < w.heap.size → w'.heap[x]? = w.heap[x]?) (hs : w.heap.size ≤ w'.heap.size) : StreamAt w' base base1 bo bp g pa pc L picks := by
  obtain ⟨h1, ⟨hs0, h2, h3⟩, h4, h5, h6, h7, h8⟩ := h
  have own : ∀ {b e n : Nat} {v : Value} {xs : List Value}, base ≤ b → w.ownsRow b e 1 v n xs → w'.ownsRow b e 1 v n xs := fun hb ho => owns_keep ho fun g hg e => hk g (by have := (World.ownsRow.lt ho g e).1; omega) hg
  refine ⟨(World.cell?_of_block (hk _ (by show base ≤ bo; omega) (by show bo < _; omega))).trans h1, ⟨hs0, own (Nat.le_refl _) h2, fun i l hi => ?_⟩, (World.cell?_of_block (hk _ (by show base ≤ bp; omega) (by show bp < _; omega))).trans h4, own (Nat.le_refl _) h5, h6, ⟨h7.1, h7.2.1, h7.2.2.1, by omega⟩, h8⟩
  obtain ⟨v, h9, h10⟩ := h3 i l hi
  exact ⟨v, h9, own (by omega) h10⟩
/-- A row of the call's own, standing still. -/
theorem itemsAt_own {σ : Ph} {w : World} {base n c : Nat} {q : Option Addr} {l : List Int} (h : OwnI w base (.slice q n c) l) (hn : l.length = n) (hs : n < 1000000000000) (hlay : ∀ ad, q = some ad → 0 < n → σ.lay ad.block = w.heap[ad.block]? ∧ ¬ σ.SW ad.block) : ItemsAt σ q n (iv l) := by
  refine ⟨by rw [iv_length, hn], hs, fun e => ?_, fun ad e h0 => ?_⟩
  · rcases h.2 with ⟨h1, h2⟩ | ⟨g, cap, cur, h1, _⟩
    · rw [← hn, h2]
    · rw [e] at h1; cases h1
  · subst e
    obtain ⟨h3, h4⟩ := hlay ad rfl h0
    rcases h.2 with ⟨h1, _⟩ | ⟨g, cap, cur, h1, hb, hg, hnc, hcm, hcs, ht⟩
    · cases h1
    · simp only [Value.slice.injEq, Option.some.injEq] at h1
      obtain ⟨rfl, _, rfl⟩ := h1
      refine ⟨_, h3.trans hg, h4, fun w' i v hw hv => ?_⟩
      have hil : i < (iv l).length := (List.getElem?_eq_some_iff.1 hv).1
      have := World.ownsRow.cells h (g := g) (by rfl) i v hv
      rw [← this]
      refine World.cell?_of_block ?_
      rw [add_blk]
      exact hw.trans hg.symm
section
variable {Post : Value → World → Prop} {σ : Ph} {pw : World} {Q : Exit → Act → Ph → World → Prop} {fn : Frame → Prop} {a : Act} {c : Code}
/-- ████ Stream's clones are frozen. ████ -/
theorem wpM_frozen {base base1 bo bp g room pc : Nat} {pa : Option Addr} {L : List (List Int)} {picks : List Int} (hSt : StreamAt pw base base1 bo bp g pa pc L picks) (hid : Idle σ pw room) (hFb : ∀ x, σ.F x → x < base) (hgb : Try.prog.globals.size ≤ base) (hl : ∀ l ∈ L, l.length < 1000000000000) (hN : L.length < 1000000)
    (h : ∀ σ' pw', Idle σ' pw' room → σ'.room = σ.room → (∀ w0 : World, w0.heap.size ≤ base1 → Later σ w0 σ') → OwnAt σ' pw' (some ⟨g, 0, none⟩) L.length (L.map iv) → pw'.heap.size = pw.heap.size → (∀ x, x < base1 → pw'.heap[x]? = pw.heap[x]?) → pw'.os = pw.os → pw'.output = pw.output → wpM Try.prog wtG zI zS Post fn c Q a σ' pw') :
    wpM Try.prog wtG zI zS Post fn c Q a σ pw := by
  intro b k cs hb hk hq
  obtain ⟨hs0, hrow, hit⟩ := hSt.row
  have hlen : hs0.length = L.length := by have := hrow.1; omega
  have hblk : ∀ x ∈ hs0.filterMap Value.ownBlock, ∃ (i : Nat) (l : List Int) (v : Value), L[i]? = some l ∧ hs0[i]? = some v ∧ OwnI pw base1 v l ∧ v.ownBlock = some x := fun x hx => by
    obtain ⟨v, hv, hx⟩ := List.mem_filterMap.1 hx
    obtain ⟨i, hi, rfl⟩ := List.mem_iff_getElem.1 hv
    have hiL : i < L.length := by omega
    obtain ⟨v', h1, h2⟩ := hit i _ (List.getElem?_eq_getElem hiL)
    rw [List.getElem?_eq_getElem hi] at h1
    cases h1
    exact ⟨i, _, _, List.getElem?_eq_getElem hiL, List.getElem?_eq_getElem hi, h2, hx⟩
  have hge : ∀ x ∈ hs0.filterMap Value.ownBlock, base1 ≤ x ∧ x < pw.heap.size := fun x hx => by
    obtain ⟨i, l, v, _, _, h3, h4⟩ := hblk x hx
    exact World.ownsRow.lt h3 x h4
  have hlo := hSt.lo
  have hhi := hSt.hi
  refine mv_freezeAll (hs0.filterMap Value.ownBlock) σ pw (fun x hx => ⟨fun hF => ?_, ?_⟩) fun σ' pw' hf => ?_
  · have := hFb x hF
    have := (hge x hx).1
    omega
  · obtain ⟨i, l, v, _, _, h3, h4⟩ := hblk x hx
    rcases h3.2 with ⟨h1, _⟩ | ⟨g1, cap, cur, rfl, _, hg, _⟩
    · rw [h1] at h4; cases h4
    · have : g1 = x := by simpa [Value.ownBlock] using h4
      subst this
      exact ⟨_, hg, rfl⟩
  · have hsm := hf.same
    have low : ∀ x, x < base1 → pw'.heap[x]? = pw.heap[x]? := fun x hx => hf.heap x fun h => by have := (hge x h).1; omega
    have eSW : σ'.SW = σ.SW := by rw [hsm]
    have eroom : σ'.room = σ.room := by rw [hsm]
    have hlay0 : ∀ x o, σ.lay x = some o → σ'.lay x = some o := fun x o hx => by
      rw [hf.lay x, if_neg fun h => ?_]
      · exact hx
      · have h1 := hFb x (hid.layF x (by rw [hx]; rfl))
        have h2 := (hge x h).1
        omega
    refine h σ' pw' ⟨by rw [hsm]; exact hid.tag, by rw [hsm]; exact hid.n, by rw [hsm]; exact hid.d0, fun x hx => ?_, fun x hx => ?_, fun x hx => ?_, by rw [hf.size]; exact hid.gs, by rw [eroom]; exact hid.room, by rw [hsm]; exact hid.al⟩ eroom (fun w0 hw0 => ⟨fun x hx => (hf.F x).2 (.inl hx), fun x hx => ?_, hlay0, fun x hx => .inl (by rw [← eSW]; exact hx)⟩) ⟨by rw [List.length_map], hN, fun i items hi => ?_⟩ hf.size low hf.os hf.output b k cs hb hk hq
    · rw [hf.size]
      rcases (hf.F x).1 hx with h | h
      · exact hid.fb x h
      · have h2 := hge x h
        exact ⟨by omega, h2.2⟩
    · rw [eSW] at hx
      exact (hf.F x).2 (.inl (hid.sw x hx))
    · rw [hf.lay x] at hx
      by_cases hin : x ∈ hs0.filterMap Value.ownBlock
      · exact (hf.F x).2 (.inr hin)
      · rw [if_neg hin] at hx
        exact (hf.F x).2 (.inl (hid.layF x hx))
    · rcases (hf.F x).1 hx with h | h
      · exact .inl h
      · have := (hge x h).1
        exact .inr (by omega)
    · rw [List.getElem?_map] at hi
      obtain ⟨l, hli, rfl⟩ := Option.map_eq_some_iff.1 hi
      obtain ⟨v, h1, h2⟩ := hit i l hli
      have hiL := (List.getElem?_eq_some_iff.1 hli).1
      obtain ⟨q, c1, rfl, _, _, _, hq0⟩ := h2.shape rfl
      refine ⟨⟨g, 0, none⟩, q, l.length, c1, rfl, by rw [hf.size]; show g < _; omega, ?_, itemsAt_own h2 rfl (hl l (List.mem_of_getElem? hli)) fun ad e h0 => ?_⟩
      · have hb : pw'.heap[((⟨g, 0, none⟩ : Addr).add i).block]? = pw.heap[((⟨g, 0, none⟩ : Addr).add i).block]? := by
          rw [add_blk]
          exact low g (by omega)
        exact (World.cell?_of_block hb).trans (World.ownsRow.cells hrow (g := g) rfl i _ h1)
      · obtain ⟨e1, e2, e3, e4⟩ := hq0 ad e
        have hin : ad.block ∈ hs0.filterMap Value.ownBlock := List.mem_filterMap.2 ⟨_, List.mem_of_getElem? h1, by
          subst e
          obtain ⟨x, y, z0⟩ := ad
          simp only at e3 e4
          subst e3 e4
          rfl⟩
        refine ⟨by rw [hf.lay, if_pos hin], fun hsw => ?_⟩
        rw [eSW] at hsw
        have := hFb _ (hid.sw _ hsw)
        omega
end
end Go.Proofs.Ytmllcfkgkkbkpaa
/-
  Merge OF ints.
-/
namespace Go.Proofs.Ytmllcfkgkkbkpaa
open Go Go.Conc Go.RowKit Go.Conc.Lib Go.ConcR.Gen
open Go.ConcN (upd upd_ne upd_same WgLive)
open Go.ConcR (KK wgBlock WgAt stA smA rd wr mk DC0)
noncomputable def bodyMe : Code := (Try.f14.body).getD .skip
theorem bodyMe_eq : Try.f14.body = some bodyMe := rfl
theorem ntMe : Try.f14.ntmps = 18 := by kernel_rfl
theorem app18 (a b : Value) : (#[a, b] : Array Value) ++ Array.replicate (18 - (#[a, b] : Array Value).size) undef = #[a, b, undef, undef, undef, undef, undef, undef, undef, undef, undef, undef, undef, undef, undef, undef, undef, undef] := by
  apply Array.ext'
  simp [List.replicate]
theorem calmStreamI : SM 19 = true := by kernel_rfl
theorem nmStreamI : (Try.f19.name == "runtime.NumGoroutine") = false := by kernel_rfl
/-- Merge's own state: the box 'out' at s, the row of what has come. -/
def MeI (s : Nat) (B : Nat → Prop) (d : List (Nat × Value)) (w : World) : Prop :=
  ∃ v l, w.heap[s]? = some (.cells #[v] 23) ∧ OwnI w (s + 1) v l ∧ d.map (·.2) = iv l ∧ ∀ x, B x ↔ x = s ∨ v.ownBlock = some x
theorem MeI.stab (s : Nat) : Stable (MeI s) := by
  rintro B d w w' ⟨v, l, h1, h2, h3, h4⟩ hw hs
  exact ⟨v, l, (hw s ((h4 s).2 (.inl rfl))).trans h1, owns_keep h2 (fun g _ e => hw g ((h4 g).2 (.inr e))), h3, h4⟩
section
variable {Post : Value → World → Prop} {σ : Ph} {pw : World} {c : Frame} {cs : List Frame}
set_option maxRecDepth 100000 in
set_option maxHeartbeats 4000000 in
/-- A round of Merge's. -/
theorem merge_round {s l N pn ci pc bo bp : Nat} {pi pp : Option Addr} {All : List (Nat × Value)} {x0 x1 x8 x9 : Value} (hlen : All.length ≤ 1000000000000) (hints : ∃ l, All.map (·.2) = iv l) :
    RoundOk Post 14 l 0 All (MeI s) (fun _ _ _ => False) #[.slice pi N ci, .slice pp pn pc, x0, x1, .slice none 0 0, .pointer (some ⟨s, 0, none⟩), undef, undef, x8, x9, .func (.func 22) #[] #[.pointer (some ⟨bo, 0, none⟩), .pointer (some ⟨bp, 0, none⟩)], undef, undef, undef, undef, undef, undef, undef] #[11, 12]
      (match bodyMe with | .seq _ (.seq _ (.seq (.seq _ (.block _ (.rangeFunc _ _ x _))) _)) => x | _ => .skip) (match bodyMe with | .seq _ (.seq _ (.seq (.seq _ (.block _ (.rangeFunc _ _ _ x))) _)) => x | _ => .skip) := by
  rintro B dn i v rest σ pw hAll hI hB hF
  have hG : ∀ b, σ.F b → Try.prog.globals.size ≤ b := fun b hb => (hF b hb).1
  obtain ⟨lA, hlA⟩ := hints
  obtain ⟨y, rfl⟩ : ∃ y, v = .int .i64 y := by
    rw [hAll, List.map_append, List.map_cons] at hlA
    have : Value.int .i64 0 = .int .i64 0 := rfl
    have hv : v ∈ iv lA := by rw [← hlA]; simp
    obtain ⟨y, _, rfl⟩ := List.mem_map.1 hv
    exact ⟨y, rfl⟩
  have hdl : dn.length + 1 ≤ 1000000000000 := by
    have := congrArg List.length hAll
    rw [List.length_append, List.length_cons] at this
    omega
  simp only [bodyMe, Try.f14, Option.getD_some]
  refine wpM_region ?_
  simp only [List.size_toArray, List.length_cons, List.length_nil, Nat.zero_add, List.range, List.range.loop]
  refine opsM_k calmM hG rfl rfl rfl (fun t d K hK => ?_)
  go_simp
  refine hK _ _ (opsM_re ?_)
  clear hK
  walk_nrm
  refine opsM_nil ⟨rfl, rfl, rfl, fun pw3 hI3 hsz3 => ?_⟩
  obtain ⟨v, l, hbox, hown, hd, hBx⟩ := hI3
  have hsB : B s := (hBx s).2 (.inl rfl)
  have hs3 : s < pw3.heap.size := (Array.getElem?_eq_some_iff.1 hbox).1
  have hll : l.length = dn.length := by
    have := congrArg List.length hd
    rw [List.length_map, iv_length] at this
    exact this.symm
  obtain ⟨hc1, hc2⟩ := cell_row1 hbox
  refine wpM_block (wpM_region ?_)
  simp only [List.size_toArray, List.length_cons, List.length_nil, Nat.reduceAdd, Nat.zero_add, List.range, List.range.loop]
  refine opsM_k calmM hG rfl rfl rfl (fun t d K hK => ?_)
  have hx : (pw3.re t d).cell? ⟨s, 0, none⟩ = some v := hc1
  go_simp
  refine hK _ _ (opsM_re ?_)
  clear hK hx
  walk_nrm
  refine opsM_k calmM hG rfl rfl rfl (fun t d K hK => ?_)
  go_simp
  refine hK _ _ (opsM_re ?_)
  clear hK
  walk_nrm
  refine opsM_k calmM hG rfl rfl rfl (fun t d K hK => ?_)
  go_simp
  refine hK _ _ ?_
  clear hK
  walk_nrm
  rw [re_alloc]
  refine opsM_re ?_
  have hbs : s + 1 ≤ (pw3.alloc (.cells #[.int .i64 y] 3)).heap.size := by simp only [World.size_alloc]; omega
  refine opsM_appW calmM hG rfl rfl rfl (s + 1) (v := v) (e := 3) (z0 := .int .i64 0) (size := 1) (bytes := 8) Try.underlying23 rfl rfl rfl (owns_keep (w' := pw3.alloc (.cells #[.int .i64 y] 3)) hown (fun g hg _ => alloc_other hg)) rfl (src_one Try.underlying23 rfl) (by simp only [maxLen]; omega) (by omega) hbs (fun v' w5 own5 hsz5 hk5 hos5 hout5 hwhere => ?_)
  have hbox5 : w5.heap[s]? = some (.cells #[v] 23) := by
    rw [hk5 s (by simp only [World.size_alloc]; omega) (fun e => ?_), alloc_other hs3, hbox]
    have := (World.ownsRow.lt hown s e.symm).1
    omega
  obtain ⟨hc51, hc52⟩ := cell_row1 hbox5
  obtain ⟨p5, c5, rfl, _⟩ := owns_shapeV own5
  clear hll
  walk_nrm
  refine opsM_k calmM hG rfl rfl rfl (fun t d K hK => ?_)
  have hx1 : (w5.re t d).cell? ⟨s, 0, none⟩ = some v := hc51
  have hx2 : (w5.re t d).frozen? ⟨s, 0, none⟩ = false := hc52
  go_simp
  rw [re_setCell]
  refine hK _ _ (opsM_re ?_)
  clear hK hx1 hx2
  have hs5 : s < w5.heap.size := (Array.getElem?_eq_some_iff.1 hbox5).1
  refine opsM_nil ?_
  have hst : (w5.setCell ⟨s, 0, none⟩ (.slice p5 (l.length + 1) c5)).heap[s]? = some (.cells #[.slice p5 (l.length + 1) c5] 23) := by
    rw [heap_setCell_same w5 s 0 _ _ _ hbox5]
    rfl
  have hoth : ∀ x, x ≠ s → (w5.setCell ⟨s, 0, none⟩ (.slice p5 (l.length + 1) c5)).heap[x]? = w5.heap[x]? := fun x hx => heap_setCell_other w5 ⟨s, 0, none⟩ x _ hx
  have e1 : iv l ++ [Value.int .i64 y] = iv (l ++ [y]) := by rw [iv_append]; rfl
  have own6 : OwnI (w5.setCell ⟨s, 0, none⟩ (.slice p5 (l.length + 1) c5)) (s + 1) (.slice p5 (l.length + 1) c5) (l ++ [y]) := by
    unfold OwnI
    rw [List.length_append, List.length_singleton, ← e1]
    exact owns_keep own5 fun g _ e => hoth g (by have := (World.ownsRow.lt own5 g e).1; omega)
  refine ⟨rfl, .inl ⟨rfl, fun x => x = s ∨ (Value.slice p5 (l.length + 1) c5).ownBlock = some x, ⟨.slice p5 (l.length + 1) c5, l ++ [y], hst, own6, ?_, fun x => Iff.rfl⟩, ?_⟩⟩
  · rw [List.map_append, hd, ← e1]
    rfl
  · have hszs : (w5.setCell ⟨s, 0, none⟩ (.slice p5 (l.length + 1) c5)).heap.size = w5.heap.size := by simp
    simp only [World.size_alloc] at hsz5 hk5
    refine ⟨by rw [hszs]; omega, fun x hx hnB => ?_, fun x hx => ?_, ?_, ?_⟩
    · have hxs : x ≠ s := fun e => hnB ((hBx x).2 (.inl e))
      rw [hoth x hxs, hk5 x (by omega) (fun e => hnB ((hBx x).2 (.inr e.symm))), alloc_other hx]
    · rw [hszs]
      rcases hx with rfl | hx
      · exact ⟨hs5, .inl hsB⟩
      · refine ⟨(World.ownsRow.lt own5 x hx).2, ?_⟩
        rcases hwhere with h | h
        · exact .inl ((hBx x).2 (.inr (h ▸ hx)))
        · rw [h] at hx
          simp only [World.size_alloc, Option.some.injEq] at hx
          exact .inr (by omega)
    · exact hos5
    · exact hout5
set_option maxRecDepth 100000 in
set_option maxHeartbeats 4000000 in
/-- ████ Merge, FROM ITS ENTRY. ████ -/
theorem mergeM {room N ci pn pc : Nat} {pi pp : Option Addr} {L : List (List Int)} {picks : List Int} (hid : Idle σ pw room) (hroom : N ≤ room) (hin : InLs pw pi L) (hN : L.length = N) (hs : N < 1000000) (htot : total L ≤ 100000000000) (hp : InI pw pp picks) (hpn : picks.length = pn) (hps : pn ≤ 20000000000000)
    (hn : ∀ σ' v pw', Idle σ' pw' (room - N) → Later σ pw σ' → OwnI pw' pw.heap.size v (mergeT L picks) → pw.heap.size ≤ pw'.heap.size → (∀ x, x < pw.heap.size → pw'.heap[x]? = pw.heap[x]?) → pw'.os = pw.os → pw'.output = pw.output → MV Try.prog wtG zI zS Post σ' (G (c.finish v) cs) pw') :
    MV Try.prog wtG zI zS Post σ (G (Frame.enter Try.prog 14 #[.slice pi N ci, .slice pp pn pc] .normal) (c :: cs)) pw := by
  have hG : ∀ b, σ.F b → Try.prog.globals.size ≤ b := fun b hb => (hid.fb b hb).1
  have HN : RowKit.Hid (∀ σ' v pw', Idle σ' pw' (room - N) → Later σ pw σ' → OwnI pw' pw.heap.size v (mergeT L picks) → pw.heap.size ≤ pw'.heap.size → (∀ x, x < pw.heap.size → pw'.heap[x]? = pw.heap[x]?) → pw'.os = pw.os → pw'.output = pw.output → MV Try.prog wtG zI zS Post σ' (G (c.finish v) cs) pw') := Lib.hid hn
  clear hn
  have hlens : ∀ l ∈ L, l.length < 1000000000000 := fun l hl => by
    obtain ⟨i, hi, rfl⟩ := List.mem_iff_getElem.1 hl
    have := total_get (List.getElem?_eq_getElem hi)
    omega
  refine mv_bodyO (cc := bodyMe) Try.func14 bodyMe_eq (fun Q hQ => ?_)
  rw [ntMe, app18]
  simp only [bodyMe, Try.f14, Option.getD_some]
  refine wpM_seq (wpM_region ?_)
  simp only [List.size_toArray, List.length_cons, List.length_nil, Nat.zero_add, List.range, List.range.loop]
  refine opsM_k calmM hG rfl rfl rfl (fun t d K hK => ?_)
  go_simp
  refine hK _ _ (opsM_re ?_)
  clear hK
  walk_nrm
  refine opsM_nil ?_
  show wpM _ _ _ _ _ _ _ _ _ _ _
  refine wpM_seq (wpM_region ?_)
  simp only [List.size_toArray, List.length_cons, List.length_nil, Nat.zero_add, List.range, List.range.loop]
  refine opsM_push (ob := .cells #[.slice none 0 0] 23) (f := fun s => .pointer (some ⟨s, 0, none⟩)) rfl rfl rfl (by simp) (fun w => ⟨by go_simp, by simp [go_sem]⟩) ?_
  walk_nrm
  refine opsM_nil ?_
  show wpM _ _ _ _ _ _ _ _ _ _ _
  refine wpM_seq (wpM_seq (wpM_region ?_))
  simp only [List.size_toArray, List.length_cons, List.length_nil, Nat.reduceAdd, Nat.zero_add, List.range, List.range.loop]
  refine opsM_k calmM hG rfl rfl rfl (fun t d K hK => ?_)
  go_simp
  refine hK _ _ (opsM_re ?_)
  clear hK
  walk_nrm
  refine opsM_k calmM hG rfl rfl rfl (fun t d K hK => ?_)
  go_simp
  refine hK _ _ (opsM_re ?_)
  clear hK
  walk_nrm
  obtain ⟨w1, hw1⟩ : ∃ w1, w1 = pw.alloc (.cells #[.slice none 0 0] 23) := ⟨_, rfl⟩
  have hs1 : w1.heap.size = pw.heap.size + 1 := by rw [hw1]; simp only [World.size_alloc]
  have hbl : Below pw.heap.size pw w1 := by rw [hw1]; exact (Below.refl _ pw).alloc (Nat.le_refl _) _
  have hbox1 : w1.heap[pw.heap.size]? = some (.cells #[.slice none 0 0] 23) := by rw [hw1]; exact alloc_self
  rw [← hw1]
  have HW := Lib.hid hw1
  clear hw1
  refine opsM_enter (f := 19) rfl rfl (by intro c e; cases e) (fun w => run_enterOp rfl Try.func19 nmStreamI rfl w) (fun base cs hb => ?_)
  walk_nrm
  refine mv_calls calmM hG calmStreamI (R := fun t d v w' => ∃ base1 bo bp g pa pc', v = .func (.func 22) #[] #[.pointer (some ⟨bo, 0, none⟩), .pointer (some ⟨bp, 0, none⟩)] ∧ StreamAt w' w1.heap.size base1 bo bp g pa pc' L picks ∧ Below w1.heap.size (w1.re t d) w') (fun t d => (streamI_any (w1.re t d) ((hin.below hbl).re t d) hN hs hlens ((hp.below hbl).re t d) hpn hps).mono fun e w' h => ?_) (fun v w2 hv => ?_)
  · obtain ⟨base1, bo, bp, g, pa, pc', h1, h2, h3⟩ := h
    exact ⟨_, h1, base1, bo, bp, g, pa, pc', rfl, h2, h3⟩
  obtain ⟨t, d, t', d', base1, bo, bp, g, pa, pc', rfl, hSt, hb2⟩ := hv
  obtain ⟨hsz2, hlow2, hos2, hout2⟩ := below_re hb2
  replace hSt : StreamAt w2 w1.heap.size base1 bo bp g pa pc' L picks := hSt.keep (fun _ _ _ => rfl) (Nat.le_refl _)
  refine hb _ _ _ ?_
  clear hb hb2
  walk_nrm
  refine opsM_nil ?_
  show wpM _ _ _ _ _ _ _ _ _ _ _
  have hlo := hSt.lo
  have hhi := hSt.hi
  have hid2 : Idle σ w2 room := hid.grow (by omega)
  refine wpM_frozen hSt hid2 (fun x hx => by have := (hid.fb x hx).2; omega) (by have := hid.gs; omega) hlens (by omega) fun σ3 w3 hid3 hroom3 hlat3 hO3 hsz3 hlow3 hos3 hout3 => ?_
  have hlat : Later σ pw σ3 := hlat3 pw (by omega)
  have hbx3 : w3.heap[pw.heap.size]? = some (.cells #[.slice none 0 0] 23) := by rw [hlow3 _ (by omega), hlow2 _ (by omega), hbox1]
  have cellk : ∀ {x v}, w2.cell? ⟨x, 0, none⟩ = some v → x < base1 → w3.cell? ⟨x, 0, none⟩ = some v := fun {x v} h hx => (World.cell?_of_block (hlow3 _ hx)).trans h
  obtain ⟨hpl, hpc3⟩ : InI w2 pa picks ∧ ∀ a, pa = some a → w1.heap.size ≤ a.block := by
    obtain ⟨_, _, e, _, _, h4, h5⟩ := OwnI.shape hSt.picks rfl
    simp only [Value.slice.injEq, true_and] at e
    obtain ⟨rfl, rfl⟩ := e
    exact ⟨h4, fun a ha => (h5 a ha).1⟩
  have hall : things (L.map iv) picks 0 = (things L picks 0).map fun x => (x.1, Value.int .i64 x.2) := things_iv L picks 0
  refine wpM_block (wpM_range (f0 := 14) (idx := 0) (N := L.length) (bo := bo) (bp := bp) (cap := L.length) (ao := some ⟨g, 0, none⟩) (pa := pa) (pn := picks.length) (pc := pc') (picks := picks) (lists := L.map iv) (All := things (L.map iv) picks 0) (B0 := fun x => x = pw.heap.size) (Iu := MeI pw.heap.size) (Ju := fun _ _ _ => False) (fun b hb => ⟨hb.2, hb.1⟩) rfl rfl (by rw [hN]; exact { hid3 with room := Nat.le_trans hroom hid3.room }) (cellk hSt.own (by omega)) hO3 (cellk hSt.bpc (by omega)) (hpl.keep fun ad h1 _ => hlow3 _ (hSt.pa ad h1)) rfl rfl (by rw [total_iv]; omega) (MeI.stab _) (fun _ _ _ _ h => h.elim)
    ⟨.slice none 0 0, [], hbx3, OwnI.nil _ _, rfl, fun x => ⟨.inl, fun h => h.elim id fun h => by cases h⟩⟩ (fun x hx => ?_) (by omega) (fun ad h1 h2 h3 => ?_) (merge_round (by rw [things_len, total_iv]; omega) ⟨mergeT L picks, by rw [hall, List.map_map]; simp only [mergeT, iv, List.map_map]; rfl⟩) (fun σ4 B w4 hid4 hlat4 hgr4 hBF4 hI4 hd4 hdF hdB => ?_) (fun _ _ _ _ _ _ _ _ _ h => h.elim))
  · subst hx
    refine ⟨by omega, fun h => ?_⟩
    rcases (hlat3 w1 (by omega)).f' _ h with h | h
    · have := (hid.fb _ h).2
      omega
    · omega
  · have := hpc3 ad h1
    omega
  · show wpM _ _ _ _ _ _ _ _ _ _ _
    obtain ⟨v, l, hbox4, hown4, hd4l, hB4⟩ := hI4
    have hw32 : w2.heap.size ≤ w3.heap.size := by omega
    have HID3 := Lib.hid (And.intro hlat3 hO3)
    clear hsz3
    have hl : l = mergeT L picks := by
      apply iv_inj
      rw [← hd4l, hall, List.map_map]
      simp only [mergeT, iv, List.map_map]
      rfl
    subst hl
    obtain ⟨hc1, hc2⟩ := cell_row1 hbox4
    replace hG : ∀ b, σ4.F b → Try.prog.globals.size ≤ b := fun b hb => (hid4.fb b hb).1
    refine wpM_seq (wpM_region ?_)
    simp only [List.size_toArray, List.length_cons, List.length_nil, Nat.reduceAdd, Nat.zero_add, List.range, List.range.loop]
    refine opsM_k calmM hG rfl rfl rfl (fun t d K hK => ?_)
    have hx : (w4.re t d).cell? ⟨pw.heap.size, 0, none⟩ = some v := hc1
    go_simp
    refine hK _ _ (opsM_re ?_)
    clear hK hx
    walk_nrm
    refine opsM_k calmM hG rfl rfl rfl (fun t d K hK => ?_)
    go_simp
    refine hK _ _ (opsM_re ?_)
    clear hK
    walk_nrm
    refine opsM_nil ?_
    show wpM _ _ _ _ _ _ _ _ _ _ _
    refine wpM_ret (hQ _ _ _ fun k' => ?_)
    refine mv_collected (ds := []) rfl hdF hd4 ?_
    have hw3 : pw.heap.size < w3.heap.size := by omega
    have hvB : v.ownBlock ≠ some w3.heap.size := fun e => hdB ((hB4 _).2 (.inr e))
    have hr := hid3.room
    refine mv_leave (v := v) rfl Try.func14 rfl (fun w => run_results1 (r := 4) rfl w) (HN.out σ4 v _ ?_ (hlat.trans hlat4 (by omega)) ?_ ?_ (fun x hx => ?_) ?_ ?_)
    · have := hid4.grow (w' := w4.putObj w3.heap.size (.deferred none)) (by rw [putObj_os.2.2]; exact Nat.le_refl _)
      exact { this with room := by have := this.room; omega }
    · exact owns_keep (ownsRow_mono hown4 (by omega)) fun g _ e => putObj_ne fun e2 => hvB (by rw [e, e2])
    · rw [putObj_os.2.2]
      have := hgr4.size
      omega
    · rw [putObj_ne (by omega), hgr4.low x (by omega) (by omega), hlow3 x (by omega), hlow2 x (by omega), hbl.block x hx]
    · exact hgr4.os.trans (hos3.trans (hos2.trans (by rw [HW.out]; rfl)))
    · exact hgr4.output.trans (hout3.trans (hout2.trans (by rw [HW.out]; rfl)))
end
end Go.Proofs.Ytmllcfkgkkbkpaa
/-
  A LAW's BEGINNING AND END.
-/
namespace Go.Proofs.Ytmllcfkgkkbkpaa
open Go Go.Conc Go.RowKit Go.Conc.Lib Go.ConcR.Gen
open Go.ConcN (upd upd_ne upd_same WgLive)
open Go.ConcR (KK wgBlock WgAt stA smA rd wr mk DC0)
/-- What a law answers, whatever the others do. -/
def PostT (W : World) (v : Value) (w' : World) : Prop := v = .bool true ∧ W.heap.size ≤ w'.heap.size ∧ (∀ x, x < W.heap.size → w'.heap[x]? = W.heap[x]?) ∧ w'.os = W.os ∧ w'.output = W.output
/-- How it begins. -/
structure Start (W : World) (σ : Ph) (pw : World) : Prop where
  size : pw.heap.size = W.heap.size
  plain : ∀ x o, W.heap[x]? = some o → objPending o = false → pw.heap[x]? = some o ∧ ¬ σ.F x
  pend : ∀ x o, W.heap[x]? = some o → objPending o = true → σ.F x ∧ σ.lay x = some o
  os : pw.os = W.os
  output : pw.output = W.output
/-- Since its beginning. -/
structure Since (σ0 : Ph) (w0 : World) (σ : Ph) (w : World) (room : Nat) : Prop where
  idle : Idle σ w room
  later : Later σ0 w0 σ
  size : w0.heap.size ≤ w.heap.size
  low : ∀ x, x < w0.heap.size → w.heap[x]? = w0.heap[x]?
  os : w.os = w0.os
  output : w.output = w0.output
theorem Since.refl {σ : Ph} {w : World} {room : Nat} (h : Idle σ w room) : Since σ w σ w room := ⟨h, Later.refl σ w, Nat.le_refl _, fun _ _ => rfl, rfl, rfl⟩
theorem Since.trans {σ0 σ1 σ2 : Ph} {w0 w1 w2 : World} {r1 r2 : Nat} (h : Since σ0 w0 σ1 w1 r1) (k : Since σ1 w1 σ2 w2 r2) : Since σ0 w0 σ2 w2 r2 :=
  ⟨k.idle, h.later.trans k.later h.size, Nat.le_trans h.size k.size, fun x hx => (k.low x (by have := h.size; omega)).trans (h.low x hx), k.os.trans h.os, k.output.trans h.output⟩
theorem Since.step {σ0 σ : Ph} {w0 w w' : World} {room : Nat} (h : Since σ0 w0 σ w room) (hs : w.heap.size ≤ w'.heap.size) (hl : ∀ x, x < w0.heap.size → w'.heap[x]? = w.heap[x]?) (ho : w'.os = w.os) (hu : w'.output = w.output) : Since σ0 w0 σ w' room :=
  ⟨h.idle.grow hs, h.later, Nat.le_trans h.size hs, fun x hx => (hl x hx).trans (h.low x hx), ho.trans h.os, hu.trans h.output⟩
theorem Since.below {σ0 σ : Ph} {w0 w w' : World} {room : Nat} (h : Since σ0 w0 σ w room) (hb : Below w.heap.size w w') : Since σ0 w0 σ w' room := h.step hb.size (fun x hx => hb.block x (by have := h.size; omega)) hb.os hb.output
theorem Since.belowR {σ0 σ : Ph} {w0 w w' : World} {room : Nat} {t t' : Nat → Question → Nat} {d d' : Nat} (h : Since σ0 w0 σ w room) (hb : Below w.heap.size (w.re t d) (w'.re t' d')) : Since σ0 w0 σ w' room := h.step hb.size (fun x hx => hb.block x (by have := h.size; omega)) hb.os hb.output
theorem post_of {W w0 pw : World} {σ0 σ : Ph} {room : Nat} (hst : Start W σ0 w0) (hs : Since σ0 w0 σ pw room) (w : World) (hp : Poi Try.prog σ.F (pw.re w.tape w.drawn) w) (hl : ∀ b o, σ.lay b = some o → w.heap[b]? = some o) : PostT W (.bool true) w := by
  have e : pw.heap.size = w.heap.size := hp.size
  refine ⟨rfl, by rw [← hst.size, ← e]; exact hs.size, fun x hx => ?_, (hp.os.symm.trans hs.os).trans hst.os, (hp.output.symm.trans hs.output).trans hst.output⟩
  have ho := Array.getElem?_eq_getElem hx
  cases hpd : objPending W.heap[x] with
  | true =>
    obtain ⟨_, h2⟩ := hst.pend x _ ho hpd
    rw [hl x _ (hs.later.lay x _ h2), ho]
  | false =>
    obtain ⟨h1, h2⟩ := hst.plain x _ ho hpd
    have hx0 : x < w0.heap.size := by rw [hst.size]; exact hx
    have hF : ¬ σ.F x := fun h => (hs.later.f' x h).elim h2 fun h => by omega
    have e1 : pw.heap[x]? = w.heap[x]? := hp.out x hF
    rw [← e1, hs.low x hx0, h1, ho]
/-- The world with what is pending poisoned. -/
def poisoned (P : Program) (W : World) : World := { W with heap := W.heap.map fun o => if objPending o then poison P else o }
theorem poi_start {P : Program} (W : World) : Poi P (fun x => ∃ o, W.heap[x]? = some o ∧ objPending o = true) (poisoned P W) W := by
  have hg : ∀ x : Nat, (poisoned P W).heap[x]? = (W.heap[x]?).map fun o => if objPending o then poison P else o := fun x => by simp [poisoned]
  refine ⟨by simp [poisoned], rfl, rfl, rfl, rfl, fun b hb => ?_, fun b ⟨o, hb, _⟩ => (Array.getElem?_eq_some_iff.1 hb).1, fun b ⟨o, hb, hp⟩ => ?_, fun b o ⟨o', hb, hp⟩ ho => ?_, fun b o hb ho => ?_⟩
  · rw [hg]
    cases h : W.heap[b]? with
    | none => rfl
    | some o =>
      have : objPending o = false := by
        cases hpd : objPending o with
        | false => rfl
        | true => exact absurd ⟨o, h, hpd⟩ hb
      simp [this]
  · rw [hg, hb]
    simp [hp]
  · rw [ho] at hb
    cases hb
    cases o <;> first | rfl | cases hp
  · cases hpd : objPending o with
    | false => rfl
    | true => exact absurd ⟨o, ho, hpd⟩ hb
theorem globals_rows : (List.range Try.prog.globals.size).all (fun g => (((begin Try.prog (fun _ _ => 0) default).world.heap[g]?).bind Obj.row?).isSome) = true := by kernel_rfl
theorem shaped_rows {W : World} (h : W.ShapedOpen Try.prog) (g : Nat) (hg : g < Try.prog.globals.size) : ∃ cs t, W.heap[g]? = some (.cells cs t) := by
  have := List.all_eq_true.1 globals_rows g (List.mem_range.2 hg)
  obtain ⟨⟨zero, t⟩, hz⟩ := Option.isSome_iff_exists.1 this
  obtain ⟨cs, h1, _⟩ := h.1 g zero t hg hz
  exact ⟨cs, t, h1⟩
section
variable {W : World} {f : FuncId} {args : Array Value} {Post : Value → World → Prop}
/-- ████ A law's run, from the view of its starter. ████ -/
theorem law_ends (hsh : W.ShapedOpen Try.prog) (h : ∀ σ pw, Start W σ pw → Idle σ pw 1000000 → MV Try.prog wtG zI zS Post σ (G (Frame.enter Try.prog f args .normal) []) pw) :
    Ends Try.prog Post (crowd #[G (Frame.enter Try.prog f args .normal) []] W none) #[] := by
  let F0 : Nat → Prop := fun x => ∃ o, W.heap[x]? = some o ∧ objPending o = true
  let lay0 : Nat → Option Obj := fun x => (W.heap[x]?).bind fun o => if objPending o then some o else none
  have hl : ∀ x o, lay0 x = some o → W.heap[x]? = some o ∧ objPending o = true := fun x o hx => by
    obtain ⟨o', h1, h2⟩ := Option.bind_eq_some_iff.1 hx
    by_cases hp : objPending o' = true
    · rw [if_pos hp] at h2
      cases h2
      exact ⟨h1, hp⟩
    · rw [if_neg hp] at h2
      cases h2
  have hlF : ∀ x, (lay0 x).isSome = true → F0 x := fun x hx => by
    obtain ⟨o, ho⟩ := Option.isSome_iff_exists.1 hx
    exact ⟨o, hl x o ho⟩
  have hgs : Try.prog.globals.size ≤ W.heap.size := by
    by_cases h0 : Try.prog.globals.size = 0
    · omega
    · obtain ⟨cs, t, hg⟩ := shaped_rows hsh (Try.prog.globals.size - 1) (by omega)
      have := (Array.getElem?_eq_some_iff.1 hg).1
      omega
  have hFg : ∀ x, F0 x → Try.prog.globals.size ≤ x := fun x ⟨o, hx, hp⟩ => by
    by_cases hlt : x < Try.prog.globals.size
    · obtain ⟨cs, t, hg⟩ := shaped_rows hsh x hlt
      rw [hg] at hx
      cases hx
      cases hp
    · omega
  have hpoi := poi_start (P := Try.prog) W
  refine ms_run (ty := wtG) (z := zI) (z' := zS) (F := F0) (lay := lay0) hlF (fun b o hb => (hl b o hb).1) (room := 1000000) (by decide) (junk := 0) ?_
  refine h ⟨F0, lay0, fun _ => False, fun _ _ => False, fun _ => 0, fun _ => [], 1, 0, 0, 0, false, .idle, 0, 0, 1000000, false⟩ (poisoned Try.prog W) ⟨hpoi.size, fun x o hx hp => ?_, fun x o hx hp => ⟨⟨o, hx, hp⟩, ?_⟩, rfl, rfl⟩ ⟨rfl, rfl, rfl, fun x hx => ⟨hFg x hx, ?_⟩, fun _ h => h.elim, hlF, by rw [hpoi.size]; exact hgs, Nat.le_refl _, rfl⟩ (by simp) W hpoi
  · have hn : ¬ F0 x := fun ⟨o', h1, h2⟩ => by
      rw [hx] at h1
      cases h1
      rw [hp] at h2
      cases h2
    exact ⟨(hpoi.out x hn).trans hx, hn⟩
  · show (W.heap[x]?).bind _ = _
    rw [hx]
    simp [hp]
  · rw [hpoi.size]
    exact hpoi.low x hx
end
section
variable {P : Program} {ty : TypeId} {z z' : Value} {Post : Value → World → Prop} {σ : Ph} {pw : World} {css : List Frame} {a : Act} {k : List Item}
/-- A function from its entry to its 'return', its deferred calls before it, whoever called it. -/
theorem mv_bodyG {f : FuncId} {fn : Func} {cc : Code} {args : Array Value} (hf : P.funcs[f]? = some fn) (hbody : fn.body = some cc)
    (h : ∀ Q : Exit → Act → Ph → World → Prop, (∀ a' σ' pw', (∀ k', MV P ty z z' Post σ' (G (outF f a' k') css) pw') → Q .ret a' σ' pw') → wpM P ty z z' Post (fun b => b.fn = f ∧ b.roundOf = none) cc Q ⟨args ++ Array.replicate (fn.ntmps - args.size) undef, []⟩ σ pw) : MV P ty z z' Post σ (G (Frame.enter P f args .normal) css) pw := by
  have he : Frame.enter P f args .normal = ({ (default : Frame) with fn := f } : Frame).atR ⟨args ++ Array.replicate (fn.ntmps - args.size) undef, []⟩ [.code cc] := by
    simp [Frame.enter, Frame.atR, hf, hbody]
    exact ⟨rfl, rfl⟩
  rw [he]
  refine h (fun e a' σ' pw' => e = .ret ∧ ∀ k', MV P ty z z' Post σ' (G (outF f a' k') css) pw') (fun a' σ' pw' hm => ⟨rfl, hm⟩) _ [] css ⟨rfl, rfl⟩ (fun e => by cases e) fun e a' σ' pw' hq => ?_
  obtain ⟨rfl, hm⟩ := hq
  intro k'
  exact mv_ret rfl (hm k')
/-- ████ The law's return. ████ -/
theorem mv_end {f : FuncId} {fn : Func} {v : Value} (hd : a.defers = []) (hf : P.funcs[f]? = some fn) (hini : P.inits.idxOf? f = none) (ht : σ.tag = .idle) (hd0 : σ.d0 = 0)
    (hrun : ∀ w, Poi P σ.F (pw.re w.tape w.drawn) w → (results fn a.tmps).run P w = .ok v w ∧ ∀ e ∈ (results fn a.tmps).events P w #[], EvM σ w.heap.size e)
    (hpost : ∀ w, Poi P σ.F (pw.re w.tape w.drawn) w → (∀ b o, σ.lay b = some o → w.heap[b]? = some o) → Post v w) : MV P ty z z' Post σ (G (outF f a k) []) pw := by
  intro hbk w hp
  refine ms_end rfl ht hd0 fun w₁ r₁ hl => ?_
  have hp1 := hp.rf r₁
  obtain ⟨h1, h2⟩ := hrun w₁ hp1
  refine ⟨v, seen P f ((results fn a.tmps).events P w₁ #[]), ?_, fun e he => h2 e (mem_seen he), hpost w₁ hp1 hl⟩
  have hfn : (outF f a k).fn = f := rfl
  have hki : (default : Frame).kind = .normal := rfl
  simp [G, stepG, unwind, outF, Frame.atR, hki, hd, hf, Sem.runT_eq, h1, GStep.after, doReturn, hini]
end
end Go.Proofs.Ytmllcfkgkkbkpaa
/-
  What the arguments of the statements are, in the words of the walks: ints, lists of ints; a run to the row's post.
-/
namespace Go.Proofs.Ytmllcfkgkkbkpaa
open Go.ChangeShapes Go.WideShapes Go.ChangeAt Go.RowKit
theorem own : ownKnob Try.prog.godebug = none := by kernel_rfl
theorem laidOut : laidOutB Try.prog = true := by kernel_rfl
theorem cellsI : Try.prog.cellsOf 3 = 1 := by kernel_rfl
theorem bytesI : Try.prog.bytesOf 3 = 8 := by kernel_rfl
theorem bulk_litsI {H : Type} (zs : List Int) : Rows.uptoBulkAll (lits (H := H) .i64 zs) = zs.length := by
  induction zs with
  | nil => simp [lits, Rows.uptoBulkAll]
  | cons z zs ih =>
    have e : lits (H := H) .i64 (z :: zs) = .lit (.int .i64 z) :: lits .i64 zs := rfl
    rw [e]
    simp only [Rows.uptoBulkAll, ih, Rows.uptoBulk, List.length_cons]
    omega
set_option maxRecDepth 100000 in
theorem open_intsI {H : Type} {enc : TypeId × Value → H} {W : World} {r : Reach} {b0 : Nat} {v : Value} {d : DataW H} {ps : List MemPlace}
    (hv : Value.okWide Try.prog W r b0 23 v) (h : DataW.Trod enc Try.prog W 0 (fun _ => true) true 23 v d ps) :
    ∃ p l c, v = .slice p (List.length l) c ∧ InI W p l ∧ l.length + 1 ≤ Rows.uptoBulk d ∧ (d = .nil ∧ l = [] ∨ ∃ el sp, d = .slice el sp ∧ el.length = l.length) := by
  obtain ⟨a0, len, cap, rfl⟩ := okWide_slice Try.underlying23 hv
  obtain ⟨fuel, hf⟩ := h
  rcases open_ints Try.underlying23 Try.underlying3 cellsI hf with ⟨hcs, hx⟩ | ⟨x, l, c, zs, hcs, _, hl, hm, hz, hx, hcell, hwz⟩
  · simp [Value.cells] at hcs
    obtain ⟨rfl, rfl, rfl⟩ := hcs
    simp only [Prod.mk.injEq] at hx
    rw [hx.1]
    exact ⟨none, [], 0, rfl, InI.none _ _, by simp [Rows.uptoBulk], .inl ⟨rfl, rfl⟩⟩
  · simp [Value.cells] at hcs
    obtain ⟨rfl, rfl, rfl⟩ := hcs
    simp only [if_true] at hz
    simp only [Prod.mk.injEq] at hx
    have hlen : (zs.take len).length = len := by simp; omega
    refine ⟨some x, zs.take len, cap, by rw [hlen], ?_, ?_, .inr ⟨_, _, hx.1, by simp [lits]⟩⟩
    · intro h0
      rw [iv_length, hlen] at h0
      obtain ⟨b, o, s⟩ := x
      have hs : s = none := by simpa [Addr.add] using World.cell?_spot (hcell 0 (by omega))
      subst hs
      refine ⟨b, o, rfl, fun i hi => ?_⟩
      rw [iv_length, hlen] at hi
      have := hcell i (by omega)
      rw [add_plain] at this
      have hi2 : i < zs.length := by omega
      rw [this]
      simp [iv, List.getD_eq_getElem?_getD, hi2]
    · rw [hx.1]
      simp only [Rows.uptoBulk, bulk_litsI]
      omega
theorem sized_intsI {H : Type} {ts : List TypeId} {ds : List (DataW H)} (hsz : (DataW.weightsEach Try.prog ts ds).all (· ≤ reachBytes) = true) {j : Nat} {d : DataW H} {l : List Int} (ht : ts[j]? = some 23) (hd : ds[j]? = some d) (h : d = .nil ∧ l = [] ∨ ∃ el sp, d = .slice el sp ∧ el.length = l.length) : l.length ≤ 20000000000000 := by
  rcases h with ⟨_, rfl⟩ | ⟨el, sp, rfl, he⟩
  · simp
  · have := sized_slice hsz ht hd Try.underlying23
    rw [bytesI] at this
    simp only [reachBytes] at this
    omega
theorem Ends.mono {P : Program} {Post Post' : Value → World → Prop} {m : Machine} {t : Trace} (h : Ends P Post m t) (hp : ∀ v w', Post v w' → Post' v w') : Ends P Post' m t := by
  obtain ⟨N, last, o, w', t', h1, h2, h3, h4⟩ := h
  exact ⟨N, last, o, w', t', h1, h2, h3, h4.mono fun v => hp v w'⟩
theorem i64_bounds {n : Int} (h : (Lit.int .i64 n).wf = true) : -9223372036854775808 ≤ n ∧ n ≤ 9223372036854775807 := by
  simpa [Lit.wf, IntKind.min, IntKind.max, IntKind.signed, IntKind.bits] using h
/-- The world of the end, on the tape of the beginning. -/
theorem below_post {W w' : World} {v : Value} (h : PostT W v w') : Below W.heap.size W (w'.re W.tape 0) := ⟨h.2.2.2.1, rfl, h.2.2.2.2, h.2.1, h.2.2.1⟩
end Go.Proofs.Ytmllcfkgkkbkpaa
/-
  alive: one Merge.
-/
namespace Go.Proofs.Ytmllcfkgkkbkpaa
open Go Go.Conc Go.RowKit Go.Conc.Lib Go.ConcR.Gen
open Go.ConcN (upd upd_ne upd_same WgLive)
open Go.ConcR (KK wgBlock WgAt stA smA rd wr mk DC0)
noncomputable def bodyAl : Code := (Try.f9.body).getD .skip
theorem bodyAl_eq : Try.f9.body = some bodyAl := rfl
theorem ntAl : Try.f9.ntmps = 9 := by kernel_rfl
theorem nmAl : (Try.f9.name == "runtime.NumGoroutine") = false := by kernel_rfl
theorem iniAl : Try.prog.inits.idxOf? 9 = none := by kernel_rfl
theorem app9_0 : (#[] : Array Value) ++ Array.replicate (9 - (#[] : Array Value).size) undef = #[undef, undef, undef, undef, undef, undef, undef, undef, undef] := by
  apply Array.ext'
  simp [List.replicate]
theorem nmMe : (Try.f14.name == "runtime.NumGoroutine") = false := by kernel_rfl
theorem nmSI : (Try.f13.name == "runtime.NumGoroutine") = false := by kernel_rfl
theorem calmSI : SM 13 = true := by kernel_rfl
section
variable {Post : Value → World → Prop} {σ : Ph} {pw : World} {c : Frame} {cs : List Frame}
/-- Merge, by what is since then. -/
theorem mergeS {room N ci pn pc : Nat} {pi pp : Option Addr} {L : List (List Int)} {picks : List Int} (hid : Idle σ pw room) (hroom : N ≤ room) (hin : InLs pw pi L) (hN : L.length = N) (hs : N < 1000000) (htot : total L ≤ 100000000000) (hp : InI pw pp picks) (hpn : picks.length = pn) (hps : pn ≤ 20000000000000)
    (hn : ∀ σ' v pw', Since σ pw σ' pw' (room - N) → OwnI pw' pw.heap.size v (mergeT L picks) → MV Try.prog wtG zI zS Post σ' (G (c.finish v) cs) pw') :
    MV Try.prog wtG zI zS Post σ (G (Frame.enter Try.prog 14 #[.slice pi N ci, .slice pp pn pc] .normal) (c :: cs)) pw :=
  mergeM hid hroom hin hN hs htot hp hpn hps fun σ' v pw' h1 h2 h3 h4 h5 h6 h7 => hn σ' v pw' ⟨h1, h2, h4, h5, h6, h7⟩ h3
/-- SameInts, in company. -/
theorem sameS {room n cc n2 dd : Nat} {p q : Option Addr} {l m : List Int} (hid : Idle σ pw room) (h : InI pw p l) (h2 : InI pw q m) (hn : l.length = n) (hn2 : m.length = n2) (hs : n ≤ 20000000000000)
    (hk : ∀ pw', Since σ pw σ pw' room → MV Try.prog wtG zI zS Post σ (G (c.finish (.bool (decide (l = m)))) cs) pw') :
    MV Try.prog wtG zI zS Post σ (G (Frame.enter Try.prog 13 #[.slice p n cc, .slice q n2 dd] .normal) (c :: cs)) pw := by
  refine mv_calls calmM (fun b hb => (hid.fb b hb).1) calmSI (R := fun t d v w' => v = .bool (decide (l = m)) ∧ Below pw.heap.size (pw.re t d) w') (fun t d => (sameInts_any (pw.re t d) (h.re t d) (h2.re t d) hn hn2 hs).mono fun e w' h => ⟨_, h.1, rfl, h.2⟩) (fun v w2 hv => ?_)
  obtain ⟨t, d, t', d', rfl, hb⟩ := hv
  exact hk w2 ((Since.refl hid).belowR hb)
theorem InI.since {σ0 σ1 : Ph} {w w' : World} {room : Nat} {p : Option Addr} {l : List Int} (h : InI w p l) (hs : Since σ0 w σ1 w' room) : InI w' p l := InV.keep h fun a h1 h2 => hs.low _ (h.low a h1 h2)
theorem OwnI.since {σ0 σ1 : Ph} {w w' : World} {room base : Nat} {v : Value} {l : List Int} (h : OwnI w base v l) (hs : Since σ0 w σ1 w' room) : OwnI w' base v l := owns_keep h fun g hg _ => hs.low g hg
theorem Since.alloc {σ0 σ1 : Ph} {w w' : World} {room : Nat} (hs : Since σ0 w σ1 w' room) (o : Obj) : Since σ0 w σ1 (w'.alloc o) room := hs.below ((Below.refl _ w').alloc (Nat.le_refl _) o)
theorem re_size {w : World} {t : Nat → Question → Nat} {d : Nat} : (w.re t d).heap.size = w.heap.size := rfl
theorem alive_lists {pw : World} (w : World) (hw : w = (((pw.alloc (.cells #[.int .i64 1, .int .i64 2] 3)).alloc (.cells #[] 3)).alloc (.cells #[.int .i64 3, .int .i64 4, .int .i64 5] 3)).alloc (.cells #[.slice (some ⟨pw.heap.size, 0, none⟩) 2 2, .slice (some ⟨pw.heap.size + 1, 0, none⟩) 0 0, .slice (some ⟨pw.heap.size + 1 + 1, 0, none⟩) 3 3] 23)) : InLs w (some ⟨pw.heap.size + 1 + 1 + 1, 0, none⟩) [[1, 2], [], [3, 4, 5]] := by
  have h1 : InI (pw.alloc (.cells #[.int .i64 1, .int .i64 2] 3)) (some ⟨pw.heap.size, 0, none⟩) [1, 2] := InV.lit pw _ _ _ _ rfl
  have h3 : InI (((pw.alloc (.cells #[.int .i64 1, .int .i64 2] 3)).alloc (.cells #[] 3)).alloc (.cells #[.int .i64 3, .int .i64 4, .int .i64 5] 3)) (some ⟨pw.heap.size + 1 + 1, 0, none⟩) [3, 4, 5] := by
    have := InV.lit ((pw.alloc (.cells #[.int .i64 1, .int .i64 2] 3)).alloc (.cells #[] 3)) (iv [3, 4, 5]) #[.int .i64 3, .int .i64 4, .int .i64 5] 3 (0, 0) rfl
    simp only [World.size_alloc] at this
    exact this
  have h0 := InV.lit (((pw.alloc (.cells #[.int .i64 1, .int .i64 2] 3)).alloc (.cells #[] 3)).alloc (.cells #[.int .i64 3, .int .i64 4, .int .i64 5] 3)) [.slice (some ⟨pw.heap.size, 0, none⟩) 2 2, .slice (some ⟨pw.heap.size + 1, 0, none⟩) 0 0, .slice (some ⟨pw.heap.size + 1 + 1, 0, none⟩) 3 3] #[.slice (some ⟨pw.heap.size, 0, none⟩) 2 2, .slice (some ⟨pw.heap.size + 1, 0, none⟩) 0 0, .slice (some ⟨pw.heap.size + 1 + 1, 0, none⟩) 3 3] 23 (0, 0) rfl
  simp only [World.size_alloc] at h0
  subst hw
  refine ⟨_, h0, rfl, fun i l hi => ?_⟩
  rcases i with _ | _ | _ | i
  · cases hi
    exact ⟨_, _, rfl, ((h1.alloc _).alloc _).alloc _⟩
  · cases hi
    exact ⟨_, _, rfl, InI.none _ _⟩
  · cases hi
    exact ⟨_, _, rfl, h3.alloc _⟩
  · simp at hi
theorem alive_ans : mergeT [[1, 2], [], [3, 4, 5]] [1, 0, 5] = [3, 1, 4, 2, 5] := by decide +kernel
set_option maxRecDepth 100000 in
set_option maxHeartbeats 4000000 in
/-- ████ alive. ████ -/
theorem aliveM {room : Nat} (hid : Idle σ pw room) (hroom : 3 ≤ room) (hn : ∀ σ' pw', Since σ pw σ' pw' (room - 3) → MV Try.prog wtG zI zS Post σ' (G (c.finish (.bool true)) cs) pw') :
    MV Try.prog wtG zI zS Post σ (G (Frame.enter Try.prog 9 #[] .normal) (c :: cs)) pw := by
  have hG : ∀ b, σ.F b → Try.prog.globals.size ≤ b := fun b hb => (hid.fb b hb).1
  have HN := Lib.hid hn
  clear hn
  refine mv_body1 (cc := bodyAl) (r := 0) Try.func9 bodyAl_eq rfl fun Q hQ => ?_
  rw [ntAl, app9_0]
  simp only [bodyAl, Try.f9, Option.getD_some]
  refine wpM_seq (wpM_region ?_)
  simp only [List.size_toArray, List.length_cons, List.length_nil, Nat.zero_add, List.range, List.range.loop]
  refine opsM_k calmM hG rfl rfl rfl (fun t d K hK => ?_)
  go_simp
  refine hK _ _ (opsM_re ?_)
  clear hK
  walk_nrm
  refine opsM_nil ?_
  show wpM _ _ _ _ _ _ _ _ _ _ _
  refine wpM_seq (wpM_region ?_)
  simp only [List.size_toArray, List.length_cons, List.length_nil, Nat.reduceAdd, Nat.zero_add, List.range, List.range.loop]
  refine opsM_k calmM hG rfl rfl rfl (fun t d K hK => ?_)
  go_simp
  refine hK _ _ ?_
  clear hK
  walk_nrm
  rw [re_alloc]
  refine opsM_re ?_
  try simp only [re_size]
  refine opsM_k calmM hG rfl rfl rfl (fun t d K hK => ?_)
  go_simp
  refine hK _ _ ?_
  clear hK
  walk_nrm
  rw [re_alloc]
  refine opsM_re ?_
  try simp only [re_size, World.size_alloc]
  refine opsM_k calmM hG rfl rfl rfl (fun t d K hK => ?_)
  go_simp
  refine hK _ _ ?_
  clear hK
  walk_nrm
  rw [re_alloc]
  refine opsM_re ?_
  try simp only [re_size, World.size_alloc]
  refine opsM_k calmM hG rfl rfl rfl (fun t d K hK => ?_)
  go_simp
  refine hK _ _ ?_
  clear hK
  walk_nrm
  rw [re_alloc]
  refine opsM_re ?_
  try simp only [re_size, World.size_alloc]
  obtain ⟨w1, hw1⟩ : ∃ w1, w1 = (((pw.alloc (.cells #[.int .i64 1, .int .i64 2] 3)).alloc (.cells #[] 3)).alloc (.cells #[.int .i64 3, .int .i64 4, .int .i64 5] 3)).alloc (.cells #[.slice (some ⟨pw.heap.size, 0, none⟩) 2 2, .slice (some ⟨pw.heap.size + 1, 0, none⟩) 0 0, .slice (some ⟨pw.heap.size + 1 + 1, 0, none⟩) 3 3] 23) := ⟨_, rfl⟩
  have hL := alive_lists w1 hw1
  have hS1 : Since σ pw σ w1 room := by rw [hw1]; exact ((((Since.refl hid).alloc _).alloc _).alloc _).alloc _
  rw [← hw1]
  clear hw1
  refine opsM_k calmM hG rfl rfl rfl (fun t d K hK => ?_)
  go_simp
  refine hK _ _ ?_
  clear hK
  walk_nrm
  rw [re_alloc]
  refine opsM_re ?_
  try simp only [re_size]
  have hS2 := hS1.alloc (.cells #[.int .i64 1, .int .i64 0, .int .i64 5] 3)
  have hp2 : InI (w1.alloc (.cells #[.int .i64 1, .int .i64 0, .int .i64 5] 3)) (some ⟨w1.heap.size, 0, none⟩) [1, 0, 5] := InV.lit w1 _ _ _ _ rfl
  have hL2 := hL.below ((Below.refl _ w1).alloc (Nat.le_refl _) (.cells #[.int .i64 1, .int .i64 0, .int .i64 5] 3))
  refine opsM_enter (f := 14) rfl rfl (by intro c e; cases e) (fun w => run_enterOp rfl Try.func14 nmMe rfl w) (fun base cs hb => ?_)
  walk_nrm
  refine mergeS hS2.idle hroom hL2 rfl (by omega) (by decide) hp2 rfl (by omega) fun σ3 v w3 hS3 hv => hb _ _ _ ?_
  clear hb hL hL2 hp2
  rw [alive_ans] at hv
  obtain ⟨p3, c3, rfl, _, _, hin3, _⟩ := hv.shape rfl
  have hS3' := hS2.trans hS3
  replace hG : ∀ b, σ3.F b → Try.prog.globals.size ≤ b := fun b hb => (hS3.idle.fb b hb).1
  walk_nrm
  refine opsM_k calmM hG rfl rfl rfl (fun t d K hK => ?_)
  go_simp
  refine hK _ _ ?_
  clear hK
  walk_nrm
  rw [re_alloc]
  refine opsM_re ?_
  try simp only [re_size]
  have hin4 : InI (w3.alloc (.cells #[.int .i64 3, .int .i64 1, .int .i64 4, .int .i64 2, .int .i64 5] 3)) (some ⟨w3.heap.size, 0, none⟩) [3, 1, 4, 2, 5] := InV.lit w3 _ _ _ _ rfl
  have hS4 := hS3'.alloc (.cells #[.int .i64 3, .int .i64 1, .int .i64 4, .int .i64 2, .int .i64 5] 3)
  have hin3' := hin3.alloc (.cells #[.int .i64 3, .int .i64 1, .int .i64 4, .int .i64 2, .int .i64 5] 3)
  refine opsM_enter (f := 13) rfl rfl (by intro c e; cases e) (fun w => run_enterOp rfl Try.func13 nmSI rfl w) (fun base cs hb => ?_)
  walk_nrm
  refine sameS hS4.idle hin3' hin4 rfl rfl (by decide) fun w5 hS5 => hb _ _ _ ?_
  clear hb
  have hS5' := hS4.trans hS5
  simp only [decide_true]
  walk_nrm
  refine opsM_k calmM hG rfl rfl rfl (fun t d K hK => ?_)
  go_simp
  refine hK _ _ (opsM_re ?_)
  clear hK
  walk_nrm
  refine opsM_nil ?_
  show wpM _ _ _ _ _ _ _ _ _ _ _
  exact wpM_ret (hQ _ _ _ rfl (HN.out _ _ hS5'))
end
end Go.Proofs.Ytmllcfkgkkbkpaa
/-
  MuxFirst: the walk.
-/
namespace Go.Proofs.Ytmllcfkgkkbkpaa
open Go Go.Conc Go.RowKit Go.Conc.Lib Go.ConcR.Gen
open Go.ConcN (upd upd_ne upd_same WgLive)
open Go.ConcR (KK wgBlock WgAt stA smA rd wr mk DC0)
noncomputable def bodyFi : Code := (Try.f7.body).getD .skip
theorem bodyFi_eq : Try.f7.body = some bodyFi := rfl
theorem ntFi : Try.f7.ntmps = 39 := by kernel_rfl
theorem nmFi : (Try.f7.name == "runtime.NumGoroutine") = false := by kernel_rfl
theorem iniFi : Try.prog.inits.idxOf? 7 = none := by kernel_rfl
theorem app39_3 (a0 a1 a2 : Value) : (#[a0, a1, a2] : Array Value) ++ Array.replicate (39 - (#[a0, a1, a2] : Array Value).size) undef = #[a0, a1, a2, undef, undef, undef, undef, undef, undef, undef, undef, undef, undef, undef, undef, undef, undef, undef, undef, undef, undef, undef, undef, undef, undef, undef, undef, undef, undef, undef, undef, undef, undef, undef, undef, undef, undef, undef, undef] := by
  apply Array.ext'
  simp [List.replicate]
theorem nmCI : (Try.f12.name == "runtime.NumGoroutine") = false := by kernel_rfl
theorem calmCI : SM 12 = true := by kernel_rfl
theorem Start.keep {W : World} {σ : Ph} {pw : World} (h : Start W σ pw) {x : Nat} {v : Value} {o : Nat} (hc : W.cell? ⟨x, o, none⟩ = some v) : pw.heap[x]? = W.heap[x]? := by
  have hx : x < W.heap.size := World.block_lt_of_cell? W _ hc
  have ho := Array.getElem?_eq_getElem hx
  cases hp : objPending W.heap[x] with
  | false => rw [(h.plain x _ ho hp).1, ho]
  | true =>
    exfalso
    have hb : W.heap[x]? = some W.heap[x] := ho
    generalize W.heap[x] = ob at hp hb
    cases ob <;> first | cases hp; done | (simp [World.cell?, hb] at hc)
theorem InV.start {W : World} {σ : Ph} {pw : World} {p : Option Addr} {xs : List Value} (hi : InV W p xs) (h : Start W σ pw) : InV pw p xs := InV.keep hi fun a e h0 => by
  obtain ⟨b, o, rfl, hc⟩ := hi h0
  cases e
  exact h.keep (hc 0 h0)
theorem InI.start {W : World} {σ : Ph} {pw : World} {p : Option Addr} {l : List Int} (hi : InI W p l) (h : Start W σ pw) : InI pw p l := InV.start hi h
section
variable {Post : Value → World → Prop} {σ : Ph} {pw : World} {c : Frame} {cs : List Frame}
/-- copyInts, in company. -/
theorem copyS {room n cc : Nat} {p : Option Addr} {l : List Int} (hid : Idle σ pw room) (h : InI pw p l) (hn : l.length = n) (hs : n ≤ 20000000000000)
    (hk : ∀ v pw', Since σ pw σ pw' room → OwnI pw' pw.heap.size v l → MV Try.prog wtG zI zS Post σ (G (c.finish v) cs) pw') :
    MV Try.prog wtG zI zS Post σ (G (Frame.enter Try.prog 12 #[.slice p n cc] .normal) (c :: cs)) pw := by
  refine mv_calls calmM (fun b hb => (hid.fb b hb).1) calmCI (R := fun t d v w' => OwnI w' pw.heap.size v l ∧ Below pw.heap.size (pw.re t d) w') (fun t d => (copyInts_any (pw.re t d) (h.re t d) hn hs).mono fun e w' h => ?_) (fun v w2 hv => ?_)
  · obtain ⟨v, h1, h2, h3⟩ := h
    exact ⟨v, h1, h2, h3⟩
  · obtain ⟨t, d, t', d', ho, hb⟩ := hv
    exact hk v w2 ((Since.refl hid).belowR hb) ho
/-- The law's return: true. -/
theorem law_true {W w0 : World} {σ0 : Ph} {room : Nat} {f : FuncId} {fn : Func} {r : Tmp} {a : Act} {k : List Item} (hst : Start W σ0 w0) (hS : Since σ0 w0 σ pw room) (hd : a.defers = []) (hf : Try.prog.funcs[f]? = some fn) (hini : Try.prog.inits.idxOf? f = none) (hr : fn.results = #[.tmp r]) (hv : a.tmps.getD r undef = .bool true) :
    MV Try.prog wtG zI zS (PostT W) σ (G (outF f a k) []) pw :=
  mv_end hd hf hini hS.idle.tag hS.idle.d0 (v := .bool true) (fun w _ => by
    have := run_results1 (P := Try.prog) (tmps := a.tmps) hr w
    rw [hv] at this
    exact ⟨this.1, by rw [this.2]; simp⟩) (fun w hp hl => post_of hst hS w hp hl)
end
theorem InLs.two {w : World} {q0 q1 : Option Addr} {l0 l1 : List Int} {n0 n1 c0 c1 : Nat} (h0 : l0.length = n0) (h1 : l1.length = n1) (i0 : InI w q0 l0) (i1 : InI w q1 l1) : InLs (w.alloc (.cells #[.slice q0 n0 c0, .slice q1 n1 c1] 23)) (some ⟨w.heap.size, 0, none⟩) [l0, l1] := by
  subst h0 h1
  refine ⟨_, InV.lit w _ _ _ _ rfl, rfl, fun i l hi => ?_⟩
  rcases i with _ | _ | i
  · cases hi
    exact ⟨_, _, rfl, i0.alloc _⟩
  · cases hi
    exact ⟨_, _, rfl, i1.alloc _⟩
  · simp at hi
theorem InLs.since {σ0 σ1 : Ph} {w w' : World} {room : Nat} {p : Option Addr} {L : List (List Int)} (h : InLs w p L) (hs : Since σ0 w σ1 w' room) : InLs w' p L := by
  obtain ⟨hs0, h1, h2, h3⟩ := h
  refine ⟨hs0, InV.keep h1 fun a e h0 => hs.low _ (h1.low a e h0), h2, fun i l hi => ?_⟩
  obtain ⟨q, c, h4, h5⟩ := h3 i l hi
  exact ⟨q, c, h4, h5.since hs⟩
section
variable {W : World}
set_option maxRecDepth 100000 in
set_option maxHeartbeats 8000000 in
theorem muxFirst_ends {pa pb pp : Option Addr} {a b picks : List Int} {na nb np ca cb cp : Nat} (hsh : W.ShapedOpen Try.prog) (ha0 : InI W pa a) (hb0 : InI W pb b) (hp0 : InI W pp picks) (hna : a.length = na) (hnb : b.length = nb) (hnp : picks.length = np) (hsa : na ≤ 20000000000000) (hsb : nb ≤ 20000000000000) (hsp : np ≤ 20000000000000) :
    Ends Try.prog (PostT W) (crowd #[G (Frame.enter Try.prog 7 #[.slice pa na ca, .slice pb nb cb, .slice pp np cp] .normal) []] W none) #[] := by
  refine law_ends hsh fun σ pw hst hid => ?_
  have hA := ha0.start hst
  have hB := hb0.start hst
  have hP := hp0.start hst
  have hG : ∀ b, σ.F b → Try.prog.globals.size ≤ b := fun b hb => (hid.fb b hb).1
  refine mv_bodyG (cc := bodyFi) Try.func7 bodyFi_eq (fun Q hQ => ?_)
  rw [ntFi, app39_3]
  simp only [bodyFi, Try.f7, Option.getD_some]
  refine wpM_seq (wpM_region ?_)
  simp only [List.size_toArray, List.length_cons, List.length_nil, Nat.zero_add, List.range, List.range.loop]
  refine opsM_k calmM hG rfl rfl rfl (fun t d K hK => ?_)
  go_simp
  refine hK _ _ (opsM_re ?_)
  clear hK
  walk_nrm
  refine opsM_nil ?_
  show wpM _ _ _ _ _ _ _ _ _ _ _
  refine wpM_seq (wpM_seq (wpM_region ?_))
  simp only [List.size_toArray, List.length_cons, List.length_nil, Nat.reduceAdd, Nat.zero_add, List.range, List.range.loop]
  refine opsM_enter (f := 9) rfl rfl (by intro c e; cases e) (fun w => run_enterOp rfl Try.func9 nmAl rfl w) (fun base cs hb => ?_)
  walk_nrm
  refine aliveM hid (by omega) fun σ1 w1 hS1 => hb _ _ _ ?_
  clear hb
  replace hG : ∀ b, σ1.F b → Try.prog.globals.size ≤ b := fun b hb => (hS1.idle.fb b hb).1
  walk_nrm
  refine opsM_k calmM hG rfl rfl rfl (fun t d K hK => ?_)
  go_simp
  refine hK _ _ (opsM_re ?_)
  clear hK
  walk_nrm
  refine opsM_nil ?_
  show wpM _ _ _ _ _ _ _ _ _ _ _
  refine wpM_cond (t := false) rfl ?_
  simp only [Bool.false_eq_true, ↓reduceIte]
  refine wpM_skip ?_
  show wpM _ _ _ _ _ _ _ _ _ _ _
  refine wpM_seq (wpM_seq (wpM_region ?_))
  simp only [List.size_toArray, List.length_cons, List.length_nil, Nat.reduceAdd, Nat.zero_add, List.range, List.range.loop]
  have hwr : IntKind.i64.wrap ((na : Int) + (nb : Int)) = (na : Int) + (nb : Int) := by rw [IntKind.wrap_i64]; omega
  refine opsM_k calmM hG rfl rfl rfl (fun t d K hK => ?_)
  go_simp
  refine hK _ _ (opsM_re ?_)
  clear hK
  walk_nrm
  refine opsM_k calmM hG rfl rfl rfl (fun t d K hK => ?_)
  go_simp
  refine hK _ _ (opsM_re ?_)
  clear hK
  walk_nrm
  refine opsM_k calmM hG rfl rfl rfl (fun t d K hK => ?_)
  go_simp
  refine hK _ _ (opsM_re ?_)
  clear hK
  walk_nrm
  refine opsM_k calmM hG rfl rfl rfl (fun t d K hK => ?_)
  go_simp
  refine hK _ _ (opsM_re ?_)
  clear hK
  walk_nrm
  refine opsM_k calmM hG rfl rfl rfl (fun t d K hK => ?_)
  go_simp
  refine hK _ _ (opsM_re ?_)
  clear hK
  walk_nrm
  by_cases hbig : na + nb > 2000
  · have hdec : decide ((na : Int) + (nb : Int) > 2000) = true := by simp; omega
    refine opsM_k calmM hG rfl rfl rfl (fun t d K hK => ?_)
    go_simp
    refine hK _ _ (opsM_re ?_)
    clear hK
    walk_nrm
    refine opsM_nil ?_
    show wpM _ _ _ _ _ _ _ _ _ _ _
    refine wpM_cond (t := true) (by first | rfl | (simp [Act.eval]; omega)) ?_
    simp only [↓reduceIte]
    refine wpM_seq (wpM_region ?_)
    simp only [List.size_toArray, List.length_cons, List.length_nil, Nat.zero_add, List.range, List.range.loop]
    refine opsM_k calmM hG rfl rfl rfl (fun t d K hK => ?_)
    go_simp
    refine hK _ _ (opsM_re ?_)
    clear hK
    walk_nrm
    refine opsM_nil ?_
    show wpM _ _ _ _ _ _ _ _ _ _ _
    exact wpM_ret (hQ _ _ _ fun k' => law_true hst hS1 rfl Try.func7 iniFi (r := 6) rfl rfl)
  have hdec : decide ((na : Int) + (nb : Int) > 2000) = false := by simp; omega
  refine opsM_k calmM hG rfl rfl rfl (fun t d K hK => ?_)
  go_simp
  refine hK _ _ (opsM_re ?_)
  clear hK
  walk_nrm
  refine opsM_nil ?_
  show wpM _ _ _ _ _ _ _ _ _ _ _
  refine wpM_cond (t := false) (by first | rfl | (simp [Act.eval]; omega)) ?_
  simp only [Bool.false_eq_true, ↓reduceIte]
  refine wpM_skip ?_
  show wpM _ _ _ _ _ _ _ _ _ _ _
  clear hdec hwr
  refine wpM_seq (wpM_region ?_)
  simp only [List.size_toArray, List.length_cons, List.length_nil, Nat.reduceAdd, Nat.zero_add, List.range, List.range.loop]
  refine opsM_k calmM hG rfl rfl rfl (fun t d K hK => ?_)
  go_simp
  refine hK _ _ (opsM_re ?_)
  clear hK
  walk_nrm
  refine opsM_enter (f := 12) rfl rfl (by intro c e; cases e) (fun w => run_enterOp rfl Try.func12 nmCI rfl w) (fun base cs hb => ?_)
  walk_nrm
  refine copyS hS1.idle (hA.since hS1) hna hsa fun v w2 hS2 hv => hb _ _ _ ?_
  clear hb
  have hS2' := hS1.trans hS2
  walk_nrm
  refine opsM_k calmM hG rfl rfl rfl (fun t d K hK => ?_)
  go_simp
  refine hK _ _ (opsM_re ?_)
  clear hK
  walk_nrm
  refine opsM_nil ?_
  show wpM _ _ _ _ _ _ _ _ _ _ _
  refine wpM_seq (wpM_region ?_)
  simp only [List.size_toArray, List.length_cons, List.length_nil, Nat.reduceAdd, Nat.zero_add, List.range, List.range.loop]
  refine opsM_k calmM hG rfl rfl rfl (fun t d K hK => ?_)
  go_simp
  refine hK _ _ (opsM_re ?_)
  clear hK
  walk_nrm
  refine opsM_k calmM hG rfl rfl rfl (fun t d K hK => ?_)
  go_simp
  refine hK _ _ (opsM_re ?_)
  clear hK
  walk_nrm
  have hsz2 := hS2.size
  have hB2 := hB.since hS2'
  refine opsM_app calmM hG rfl rfl rfl w1.heap.size (v := v) (e := 3) (z0 := .int .i64 0) (size := 1) (bytes := 8) Try.underlying23 rfl rfl rfl hv rfl (m := (iv b).length) (news := iv b) (fun t d => by rw [← hnb, ← iv_length]; exact srcV Try.underlying23 (hB2.re t d) (iv_one b)) (by rw [iv_length]; simp only [maxLen]; omega) (by rw [iv_length]; omega) hsz2 (fun v3 w3 hv3 hsz3 hk3 hos3 hout3 => ?_)
  have hv3' : OwnI w3 w1.heap.size v3 (a ++ b) := by
    unfold OwnI
    rw [List.length_append, iv_append]
    rw [iv_length] at hv3
    exact hv3
  have hblk : ∀ x, x < w1.heap.size → some x ≠ v.ownBlock := fun x hx e => by
    have := (World.ownsRow.lt hv x e.symm).1
    omega
  have hS3 : Since σ1 w1 σ1 w3 (1000000 - 3) := hS2.step hsz3 (fun x hx => hk3 x (by omega) (hblk x hx)) hos3 hout3
  have hS3' := hS1.trans hS3
  clear hv3 hk3 hos3 hout3 hv hblk hsz3 hsz2 hB2 hS2 hS2'
  walk_nrm
  refine opsM_k calmM hG rfl rfl rfl (fun t d K hK => ?_)
  go_simp
  refine hK _ _ (opsM_re ?_)
  clear hK
  walk_nrm
  refine opsM_nil ?_
  show wpM _ _ _ _ _ _ _ _ _ _ _
  refine wpM_seq (wpM_region ?_)
  simp only [List.size_toArray, List.length_cons, List.length_nil, Nat.reduceAdd, Nat.zero_add, List.range, List.range.loop]
  refine opsM_k calmM hG rfl rfl rfl (fun t d K hK => ?_)
  go_simp
  refine hK _ _ (opsM_re ?_)
  clear hK
  walk_nrm
  refine opsM_enter (f := 12) rfl rfl (by intro c e; cases e) (fun w => run_enterOp rfl Try.func12 nmCI rfl w) (fun base cs hb => ?_)
  walk_nrm
  refine copyS hS3'.idle (hA.since hS3') hna hsa fun u4 w4 hS4 hu4 => hb _ _ _ ?_
  clear hb
  obtain ⟨q4, c4, rfl, _, _, hin4, _⟩ := hu4.shape hna
  have hS4' := hS3'.trans hS4
  have hv4 := hv3'.since hS4
  clear hu4
  walk_nrm
  refine opsM_k calmM hG rfl rfl rfl (fun t d K hK => ?_)
  go_simp
  refine hK _ _ (opsM_re ?_)
  clear hK
  walk_nrm
  refine opsM_enter (f := 12) rfl rfl (by intro c e; cases e) (fun w => run_enterOp rfl Try.func12 nmCI rfl w) (fun base cs hb => ?_)
  walk_nrm
  refine copyS hS4'.idle (hB.since hS4') hnb hsb fun u5 w5 hS5 hu5 => hb _ _ _ ?_
  clear hb
  obtain ⟨q5, c5, rfl, _, _, hin5, _⟩ := hu5.shape hnb
  have hS5' := hS4'.trans hS5
  have hv5 := hv4.since hS5
  have hin4' := hin4.since hS5
  clear hu5 hv4 hin4
  walk_nrm
  refine opsM_k calmM hG rfl rfl rfl (fun t d K hK => ?_)
  go_simp
  refine hK _ _ ?_
  clear hK
  walk_nrm
  rw [re_alloc]
  refine opsM_re ?_
  try simp only [re_size]
  have hL6 := InLs.two hna hnb hin4' hin5 (c0 := c4) (c1 := c5)
  have hS6' := hS5'.alloc (.cells #[.slice q4 na c4, .slice q5 nb c5] 23)
  have hv6 := hv5.alloc (.cells #[.slice q4 na c4, .slice q5 nb c5] 23)
  refine opsM_enter (f := 14) rfl rfl (by intro c e; cases e) (fun w => run_enterOp rfl Try.func14 nmMe rfl w) (fun base cs hb => ?_)
  walk_nrm
  refine mergeS hS6'.idle (by omega) hL6 rfl (by omega) (by simp [total]; omega) (InI.none _ none) rfl (by omega) fun σ7 u7 w7 hS7 hu7 => hb _ _ _ ?_
  clear hb
  rw [merge_first] at hu7
  have hS7' := hS6'.trans hS7
  have hv7 := hv6.since hS7
  obtain ⟨q7, c7, rfl, _, _, hin7, _⟩ := hu7.shape (n := na + nb) (by rw [List.length_append]; omega)
  obtain ⟨q8, c8, rfl, _, _, hin8, _⟩ := hv7.shape (n := na + nb) (by rw [List.length_append]; omega)
  replace hG : ∀ b, σ7.F b → Try.prog.globals.size ≤ b := fun b hb => (hS7.idle.fb b hb).1
  clear hu7 hv7 hv6 hv5 hL6
  walk_nrm
  refine opsM_k calmM hG rfl rfl rfl (fun t d K hK => ?_)
  go_simp
  refine hK _ _ (opsM_re ?_)
  clear hK
  walk_nrm
  refine opsM_enter (f := 13) rfl rfl (by intro c e; cases e) (fun w => run_enterOp rfl Try.func13 nmSI rfl w) (fun base cs hb => ?_)
  walk_nrm
  refine sameS hS7'.idle hin7 hin8 (by rw [List.length_append]; omega) (by rw [List.length_append]; omega) (by omega) fun w8 hS8 => hb _ _ _ ?_
  clear hb
  have hS8' := hS7'.trans hS8
  simp only [decide_true]
  walk_nrm
  refine opsM_k calmM hG rfl rfl rfl (fun t d K hK => ?_)
  go_simp
  refine hK _ _ (opsM_re ?_)
  clear hK
  walk_nrm
  refine opsM_k calmM hG rfl rfl rfl (fun t d K hK => ?_)
  go_simp
  refine hK _ _ (opsM_re ?_)
  clear hK
  walk_nrm
  refine opsM_enter (f := 12) rfl rfl (by intro c e; cases e) (fun w => run_enterOp rfl Try.func12 nmCI rfl w) (fun base cs hb => ?_)
  walk_nrm
  refine copyS hS8'.idle (hA.since hS8') hna hsa fun u9 w9 hS9 hu9 => hb _ _ _ ?_
  clear hb
  obtain ⟨q9, c9, rfl, _, _, hin9, _⟩ := hu9.shape hna
  have hS9' := hS8'.trans hS9
  clear hu9
  walk_nrm
  refine opsM_k calmM hG rfl rfl rfl (fun t d K hK => ?_)
  go_simp
  refine hK _ _ ?_
  clear hK
  walk_nrm
  rw [re_alloc]
  refine opsM_re ?_
  try simp only [re_size]
  have hL10 := InLs.two (l0 := []) (n0 := 0) rfl hna (InI.none w9 none) hin9 (c0 := 0) (c1 := c9)
  have hS10' := hS9'.alloc (.cells #[.slice none 0 0, .slice q9 na c9] 23)
  refine opsM_k calmM hG rfl rfl rfl (fun t d K hK => ?_)
  go_simp
  refine hK _ _ (opsM_re ?_)
  clear hK
  walk_nrm
  refine opsM_enter (f := 12) rfl rfl (by intro c e; cases e) (fun w => run_enterOp rfl Try.func12 nmCI rfl w) (fun base cs hb => ?_)
  walk_nrm
  refine copyS hS10'.idle (hP.since hS10') hnp hsp fun u11 w11 hS11 hu11 => hb _ _ _ ?_
  clear hb
  obtain ⟨q11, c11, rfl, _, _, hin11, _⟩ := hu11.shape hnp
  have hS11' := hS10'.trans hS11
  have hL11 := hL10.since hS11
  clear hu11 hL10
  walk_nrm
  refine opsM_enter (f := 14) rfl rfl (by intro c e; cases e) (fun w => run_enterOp rfl Try.func14 nmMe rfl w) (fun base cs hb => ?_)
  walk_nrm
  refine mergeS hS11'.idle (by omega) hL11 rfl (by omega) (by simp [total]; omega) hin11 hnp hsp fun σ12 u12 w12 hS12 hu12 => hb _ _ _ ?_
  clear hb
  rw [merge_second] at hu12
  have hS12' := hS11'.trans hS12
  obtain ⟨q12, c12, rfl, _, _, hin12, _⟩ := hu12.shape hna
  replace hG : ∀ b, σ12.F b → Try.prog.globals.size ≤ b := fun b hb => (hS12.idle.fb b hb).1
  clear hu12 hL11
  walk_nrm
  refine opsM_k calmM hG rfl rfl rfl (fun t d K hK => ?_)
  go_simp
  refine hK _ _ (opsM_re ?_)
  clear hK
  walk_nrm
  refine opsM_enter (f := 13) rfl rfl (by intro c e; cases e) (fun w => run_enterOp rfl Try.func13 nmSI rfl w) (fun base cs hb => ?_)
  walk_nrm
  refine sameS hS12'.idle hin12 (hA.since hS12') hna hna hsa fun w13 hS13 => hb _ _ _ ?_
  clear hb
  have hS13' := hS12'.trans hS13
  simp only [decide_true]
  walk_nrm
  refine opsM_k calmM hG rfl rfl rfl (fun t d K hK => ?_)
  go_simp
  refine hK _ _ (opsM_re ?_)
  clear hK
  walk_nrm
  refine opsM_k calmM hG rfl rfl rfl (fun t d K hK => ?_)
  go_simp
  refine hK _ _ (opsM_re ?_)
  clear hK
  walk_nrm
  refine opsM_nil ?_
  show wpM _ _ _ _ _ _ _ _ _ _ _
  exact wpM_ret (hQ _ _ _ fun k' => law_true hst hS13' rfl Try.func7 iniFi (r := 6) rfl rfl)
end
end Go.Proofs.Ytmllcfkgkkbkpaa
/-
  MuxNumbers: its last piece, lone; the helpers in company.
-/
namespace Go.Proofs.Ytmllcfkgkkbkpaa
open Go Go.Conc Go.RowKit Go.Conc.Lib Go.ConcR.Gen
open Go.ConcN (upd upd_ne upd_same WgLive)
open Go.ConcR (KK wgBlock WgAt stA smA rd wr mk DC0)
theorem nmCL : (Try.f11.name == "runtime.NumGoroutine") = false := by kernel_rfl
theorem nmMA : (Try.f10.name == "runtime.NumGoroutine") = false := by kernel_rfl
theorem nmRM : (Try.f15.name == "runtime.NumGoroutine") = false := by kernel_rfl
theorem nmRT : (Try.f18.name == "runtime.NumGoroutine") = false := by kernel_rfl
theorem calmCL : SM 11 = true := by kernel_rfl
theorem calmMA : SM 10 = true := by kernel_rfl
theorem calmRM : SM 15 = true := by kernel_rfl
theorem calmRT : SM 18 = true := by kernel_rfl
theorem OwnLs.re {w : World} {base : Nat} {v : Value} {L : List (List Int)} (h : OwnLs w base v L) (t : Nat → Question → Nat) (d : Nat) : OwnLs (w.re t d) base v L := h
theorem OwnLs.since {σ0 σ1 : Ph} {w w' : World} {room base : Nat} {v : Value} {L : List (List Int)} (h : OwnLs w base v L) (hs : Since σ0 w σ1 w' room) : OwnLs w' base v L := by
  obtain ⟨hs0, h1, h2⟩ := h
  exact ⟨hs0, owns_keep h1 (fun g hg _ => hs.low g hg), fun i l hi => let ⟨u, h3, h4⟩ := h2 i l hi; ⟨u, h3, h4.since hs⟩⟩
theorem InLs.start {W : World} {σ : Ph} {pw : World} {p : Option Addr} {L : List (List Int)} (hi : InLs W p L) (h : Start W σ pw) : InLs pw p L := by
  obtain ⟨hs0, h1, h2, h3⟩ := hi
  refine ⟨hs0, InV.start h1 h, h2, fun i l hl => ?_⟩
  obtain ⟨q, c, h4, h5⟩ := h3 i l hl
  exact ⟨q, c, h4, h5.start h⟩
section
variable {Post : Value → World → Prop} {σ : Ph} {pw : World} {c : Frame} {cs : List Frame}
theorem copyLS {room n cc : Nat} {p : Option Addr} {L : List (List Int)} (hid : Idle σ pw room) (h : InLs pw p L) (hn : L.length = n) (hs : n < 1000000) (hl : ∀ l ∈ L, l.length ≤ 1000000000000)
    (hk : ∀ v pw', Since σ pw σ pw' room → OwnLs pw' pw.heap.size v L → MV Try.prog wtG zI zS Post σ (G (c.finish v) cs) pw') :
    MV Try.prog wtG zI zS Post σ (G (Frame.enter Try.prog 11 #[.slice p n cc] .normal) (c :: cs)) pw := by
  refine mv_calls calmM (fun b hb => (hid.fb b hb).1) calmCL (R := fun t d v w' => OwnLs w' pw.heap.size v L ∧ Below pw.heap.size (pw.re t d) w') (fun t d => (copyLists_any (pw.re t d) (h.re t d) hn hs hl).mono fun e w' h => ?_) (fun v w2 hv => ?_)
  · obtain ⟨v, h1, h2, h3⟩ := h
    exact ⟨v, h1, h2, h3⟩
  · obtain ⟨t, d, t', d', ho, hb⟩ := hv
    exact hk v w2 ((Since.refl hid).belowR hb) ho
theorem manyS {room n cc : Nat} {p : Option Addr} {L : List (List Int)} (hid : Idle σ pw room) (h : InLs pw p L) (hn : L.length = n) (hs : n ≤ 1000000000000) (htot : total L ≤ 1000000000000)
    (hk : ∀ pw', Since σ pw σ pw' room → MV Try.prog wtG zI zS Post σ (G (c.finish (.bool (decide (100 < n ∨ 2000 < total L)))) cs) pw') :
    MV Try.prog wtG zI zS Post σ (G (Frame.enter Try.prog 10 #[.slice p n cc] .normal) (c :: cs)) pw := by
  refine mv_calls calmM (fun b hb => (hid.fb b hb).1) calmMA (R := fun t d v w' => v = .bool (decide (100 < n ∨ 2000 < total L)) ∧ Below pw.heap.size (pw.re t d) w') (fun t d => (many_any (pw.re t d) (h.re t d) hn hs htot).mono fun e w' h => ⟨_, h.1, rfl, h.2⟩) (fun v w2 hv => ?_)
  obtain ⟨t, d, t', d', rfl, hb⟩ := hv
  exact hk w2 ((Since.refl hid).belowR hb)
theorem refMergeS {room n cc np cp : Nat} {p pp : Option Addr} {L : List (List Int)} {picks : List Int} (hid : Idle σ pw room) (h : InLs pw p L) (hn : L.length = n) (hs : n ≤ 1000000) (htot : total L ≤ 1000000000) (hp : InI pw pp picks) (hnp : picks.length = np)
    (hk : ∀ v pw', Since σ pw σ pw' room → OwnI pw' pw.heap.size v (mergeT L picks) → MV Try.prog wtG zI zS Post σ (G (c.finish v) cs) pw') :
    MV Try.prog wtG zI zS Post σ (G (Frame.enter Try.prog 15 #[.slice p n cc, .slice pp np cp] .normal) (c :: cs)) pw := by
  refine mv_calls calmM (fun b hb => (hid.fb b hb).1) calmRM (R := fun t d v w' => OwnI w' pw.heap.size v (mergeT L picks) ∧ Below pw.heap.size (pw.re t d) w') (fun t d => (refMerge_any (pw.re t d) (h.re t d) hn hs htot (hp.re t d) hnp).mono fun e w' h => ?_) (fun v w2 hv => ?_)
  · obtain ⟨v, h1, h2, h3⟩ := h
    exact ⟨v, h1, h2, h3⟩
  · obtain ⟨t, d, t', d', ho, hb⟩ := hv
    exact hk v w2 ((Since.refl hid).belowR hb) ho
end
noncomputable def bodyNu : Code := (Try.f3.body).getD .skip
noncomputable def tailNu : Code := match bodyNu with
  | .seq _ (.seq _ (.seq _ (.seq _ (.seq _ (.seq _ x))))) => x
  | _ => .skip
theorem InLs.drewN {w : World} {p : Option Addr} {L : List (List Int)} (h : InLs w p L) (n : Nat) : InLs (w.drewN n) p L := h
set_option maxRecDepth 100000 in
set_option maxHeartbeats 8000000 in
theorem numbers_tail {p q : Option Addr} {n c cq : Nat} {L : List (List Int)} {v1 v2 v3 v4 v6 v7 v8 v9 v10 v11 v12 v13 v14 v15 v16 v17 v18 v19 v20 v21 v22 v23 v24 v25 v26 v27 v28 v29 v30 v31 v32 v33 v34 v35 v36 v37 v38 v39 v40 v41 v42 v43 v44 v45 : Value} (w : World) (hA : InLs w p L) (hB : InLs w q L) (hn : L.length = n) (hs : n ≤ 1000000) (hl : ∀ l ∈ L, l.length ≤ 1000000000000) :
    tailNu.wp Try.prog (fun e a' w' => ∃ r, e = exitOf r ∧ r = true ∧ a'.tmps.getD 4 undef = .bool true ∧ a'.defers = [] ∧ Below w.heap.size w w') ⟨#[.slice p n c, v1, v2, v3, v4, .slice q n cq, v6, v7, v8, v9, v10, v11, v12, v13, v14, v15, v16, v17, v18, v19, v20, v21, v22, v23, v24, v25, v26, v27, v28, v29, v30, v31, v32, v33, v34, v35, v36, v37, v38, v39, v40, v41, v42, v43, v44, v45], []⟩ w := by
  have HN := Lib.hid hn
  clear hn
  simp only [tailNu, bodyNu, Try.f3, Option.getD_some]
  go_wp2
  go_loopw [7] (fun i wr => ∃ k : Nat, k ≤ n ∧ i = .int .i64 k ∧ Below w.heap.size w wr) (fun i _ => n - (intOf i).toNat)
  case atStart => exact ⟨0, Nat.zero_le _, rfl, Below.refl _ _⟩
  case round =>
    obtain ⟨k, hk, rfl, hb⟩ := hrel
    by_cases hlt : k < n
    · have hkL : k < L.length := by rw [HN.out]; exact hlt
      obtain ⟨b, o, qa, ca, rfl, hca, hia⟩ := (hA.below hb).at hkL
      obtain ⟨b2, o2, qb, cb, rfl, hcb, hib⟩ := (hB.below hb).at hkL
      have hll := hl L[k] (List.getElem_mem hkL)
      generalize L[k] = l at hca hia hcb hib hll
      obtain ⟨S, hSS⟩ : ∃ S : World → Prop, S = fun W => W.cell? ⟨b, o + k, none⟩ = some (.slice qa l.length ca) ∧ W.cell? ⟨b2, o2 + k, none⟩ = some (.slice qb l.length cb) := ⟨_, rfl⟩
      have HSS := Lib.hid (fun W => show S W ↔ W.cell? ⟨b, o + k, none⟩ = some (.slice qa l.length ca) ∧ W.cell? ⟨b2, o2 + k, none⟩ = some (.slice qb l.length cb) by rw [hSS])
      have HK0 := Lib.hid (show S wr.drew by rw [hSS]; exact ⟨hca, hcb⟩)
      have HCL := Lib.hid (show Calls Try.prog 13 #[.slice qb l.length cb, .slice qa l.length ca] wr.drew fun e w' => e = .returned (.bool true) ∧ S w' ∧ Below w.heap.size w w' from
        (sameInts_any wr.drew (hib.below (Below.refl _ wr).drew) (hia.below (Below.refl _ wr).drew) rfl rfl (by omega)).mono fun e w' ⟨h1, h2⟩ => by
          have hb4 : Below wr.heap.size wr w' := ((Below.refl _ wr).drew).trans h2
          refine ⟨by rw [h1]; simp, ?_, hb.trans (hb4.mono hb.size)⟩
          rw [hSS]
          exact ⟨(hb4.cell (World.block_lt_of_cell? wr _ hca)).trans hca, (hb4.cell (World.block_lt_of_cell? wr _ hcb)).trans hcb⟩)
      clear hSS hca hcb hia hib hb
      go_wp2_with fail
      go_region_held3 (fun W => W.cell? ⟨b, o + k, none⟩ = some (.slice qa l.length ca) ∧ W.cell? ⟨b2, o2 + k, none⟩ = some (.slice qb l.length cb))
        (first | (with_reducible exact (HSS.out _).1 HK0.out) | (with_reducible exact (HSS.out _).1 HK1.out))
        (first
          | (go_at_call 13; with_reducible refine HCL.out.mono ?_; rintro e w4 ⟨rfl, hk1, hb4⟩; have HK1 := Lib.hid hk1; have HB4 := Lib.hid hb4; clear hk1 hb4))
      all_goals
        go_wp2_with fail
        go_roundw
        case rel => exact ⟨k + 1, by omega, by go_num, HB4.out⟩
        case measure => simp [intOf]; omega
    · obtain rfl : k = n := by omega
      go_wp2
      first | rfl | exact ⟨true, rfl, rfl, rfl, rfl, hb⟩ | exact ⟨rfl, rfl, rfl, hb⟩ | trace_state
end Go.Proofs.Ytmllcfkgkkbkpaa
/-
  An argument that is a row of rows of ints, in the words of the walks.
-/
namespace Go.Proofs.Ytmllcfkgkkbkpaa
open Go.ChangeShapes Go.WideShapes Go.ChangeAt Go.RowKit
theorem cellsLI : Try.prog.cellsOf 23 = 1 := by kernel_rfl
set_option maxRecDepth 100000 in
theorem open_intsC {H : Type} {enc : TypeId × Value → H} {W : World} {fuel : Nat} {cs : List Value} {d : DataW H} {ps : List MemPlace} (hf : DataW.trod enc Try.prog W 0 (fun _ => true) true fuel 23 cs = some (d, ps)) :
    ∃ p Z c, cs = [.slice p (List.length Z) c] ∧ InI W p Z ∧ Z.length + 1 ≤ Rows.uptoBulk d := by
  rcases open_ints Try.underlying23 Try.underlying3 cellsI hf with ⟨hcs, hx⟩ | ⟨x, l, c, zs, hcs, _, hl, hm, hz, hx, hcell, _⟩
  · simp only [Prod.mk.injEq] at hx
    exact ⟨none, [], 0, hcs, InI.none _ _, by rw [hx.1]; simp [Rows.uptoBulk]⟩
  · simp only [if_true] at hz
    simp only [Prod.mk.injEq] at hx
    have hlen : (zs.take l).length = l := by simp; omega
    refine ⟨some x, zs.take l, c, by rw [hcs, hlen], ?_, ?_⟩
    · intro h0
      rw [iv_length, hlen] at h0
      obtain ⟨b, o, s⟩ := x
      have hs : s = none := by simpa [Addr.add] using World.cell?_spot (hcell 0 (by omega))
      subst hs
      refine ⟨b, o, rfl, fun i hi => ?_⟩
      rw [iv_length, hlen] at hi
      have := hcell i (by omega)
      rw [add_plain] at this
      have hi2 : i < zs.length := by omega
      rw [this]
      simp [iv, List.getD_eq_getElem?_getD, hi2]
    · rw [hlen, hx.1]
      simp only [Rows.uptoBulk, bulk_litsI, List.length_take, List.length_drop]
      omega
theorem bulkAll_app {H : Type} (A B : List (DataW H)) : Rows.uptoBulkAll (A ++ B) = Rows.uptoBulkAll A + Rows.uptoBulkAll B := by
  induction A with
  | nil => simp [Rows.uptoBulkAll]
  | cons x A ih => rw [List.cons_append]; simp only [Rows.uptoBulkAll, ih]; omega
theorem bulkAll_lists {H : Type} (D : Nat → DataW H) (f : Nat → List Int) : ∀ l : Nat, (∀ i, i < l → (f i).length + 1 ≤ Rows.uptoBulk (D i)) → total ((List.range l).map f) + l ≤ Rows.uptoBulkAll ((List.range l).map D)
  | 0, _ => by simp [total, Rows.uptoBulkAll]
  | l + 1, h => by
    have ih := bulkAll_lists D f l fun i hi => h i (by omega)
    have h1 := h l (by omega)
    unfold total at ih ⊢
    rw [List.range_succ, List.map_append, List.map_append, List.map_append, bulkAll_app, List.sum_append]
    simp only [List.map_cons, List.map_nil, List.sum_cons, List.sum_nil, Rows.uptoBulkAll]
    omega
set_option maxRecDepth 100000 in
theorem open_listsI {H : Type} {enc : TypeId × Value → H} {W : World} {r : Reach} {b0 : Nat} {v : Value} {d : DataW H} {ps : List MemPlace}
    (hv : Value.okWide Try.prog W r b0 22 v) (h : DataW.Trod enc Try.prog W 0 (fun _ => true) true 22 v d ps) :
    ∃ (p : Option Addr) (L : List (List Int)) (c : Nat), v = .slice p L.length c ∧ InLs W p L ∧ total L + L.length ≤ Rows.uptoBulk d := by
  obtain ⟨a0, len, cap, rfl⟩ := okWide_slice Try.underlying22 hv
  obtain ⟨fuel, hf⟩ := h
  rcases Go.Deep.open_slice Try.underlying22 hf with ⟨hcs, hx⟩ | ⟨x, l, c, m, n, D, Pl, hcs, _, hl, hm, hmm, hx, hat⟩
  · simp [Value.cells] at hcs
    obtain ⟨rfl, rfl, rfl⟩ := hcs
    exact ⟨none, [], 0, rfl, ⟨[], fun h => absurd h (by simp), rfl, fun i l hi => by simp at hi⟩, by simp [total]⟩
  · simp [Value.cells] at hcs
    obtain ⟨rfl, rfl, rfl⟩ := hcs
    simp only [if_true] at hmm
    subst hmm
    simp only [Prod.mk.injEq] at hx
    have each : ∀ i, i < m → ∃ q : Option Addr × Nat × List Int, W.cell? (x.add i) = some (.slice q.1 q.2.2.length q.2.1) ∧ InI W q.1 q.2.2 ∧ q.2.2.length + 1 ≤ Rows.uptoBulk (D i) := by
      intro i hi
      obtain ⟨cs', h1, h2⟩ := hat i hi
      rw [cellsLI, Nat.mul_one] at h1
      obtain ⟨_, hlen, hcell⟩ := World.cells?_some h1
      obtain ⟨p, Z, c, rfl, h3, h4⟩ := open_intsC h2
      have e0 := hcell 0 (by omega)
      rw [Go.Deep.add_add, Nat.add_zero] at e0
      exact ⟨(p, c, Z), by simpa using e0, h3, h4⟩
    obtain ⟨q, hq⟩ := Go.Deep.choose_lt each
    have hlen : ((List.range len).map fun i => (q i).2.2).length = len := by simp
    refine ⟨some x, (List.range len).map fun i => (q i).2.2, _, by rw [hlen], ⟨(List.range len).map fun i => .slice (q i).1 (q i).2.2.length (q i).2.1, ?_, by simp, fun i l hi => ?_⟩, ?_⟩
    · intro h0
      simp only [List.length_map, List.length_range] at h0
      obtain ⟨b, o, s⟩ := x
      have hs : s = none := by simpa [Addr.add] using World.cell?_spot (hq 0 (by omega)).1
      subst hs
      refine ⟨b, o, rfl, fun k hk => ?_⟩
      simp only [List.length_map, List.length_range] at hk
      have := (hq k (by omega)).1
      rw [add_plain] at this
      rw [this]
      simp
    · have hil : i < len := by
        have := (List.getElem?_eq_some_iff.1 hi).1
        rwa [hlen] at this
      rw [List.getElem?_map, List.getElem?_range hil] at hi
      simp only [Option.map_some, Option.some.injEq] at hi
      subst hi
      exact ⟨(q i).1, (q i).2.1, by rw [List.getElem?_map, List.getElem?_range hil]; rfl, (hq i (by omega)).2.1⟩
    · rw [hx.1, hlen]
      simp only [Rows.uptoBulk]
      have := bulkAll_lists D (fun i => (q i).2.2) len fun i hi => (hq i (by omega)).2.2
      omega
end Go.Proofs.Ytmllcfkgkkbkpaa
/-
  From the contract to the row, where the specification has a condition and the call may leave goroutines that are only leaving.
-/
namespace Go.Proofs.Ytmllcfkgkkbkpaa
open Go.ChangeShapes
/-- The row of a specification with a condition, for a call that starts goroutines. -/
theorem holds_of_cond_leaving {p : Pinned} {s : OpenSpec} {c : OpenClaim} (f : FuncId) (fn : Func)
    (hn : c.program = p.name) (hs : c.sum = p.sum) (hsp : c.spec = s.name)
    (hstart : c.start = .entering) (hout : c.outside = []) (hin : c.inits = []) (hun : c.under = none) (hi4 : c.initsInPlace = [] ∧ c.initsUnfollowed = false ∧ c.initsRecurse = false ∧ c.initsNamed = [] ∧ c.initsPassed = []) (hnb : c.noBlocks = false) (hlv : c.leaving = true) (hfo : c.followed = none) (hnar : c.narrowed = s.cond.isSome) (hstill : c.still = false)
    (hfn : p.checked.prog.funcNamed c.func = some f) (hf : p.checked.prog.funcs[f]? = some fn)
    (closed : joinedFacts p.checked.prog f fn s.bare c = true)
    (hinst : fn.isInstance p.checked.prog c.origin c.targs) (hwrap : fn.isWrapper p.checked.prog c.wrapper c.mainSum)
    (h : ∀ os : Os, os.Started → ∀ (H : Type) (enc : TypeId × Value → H), (∀ a b, enc a = enc b → a = b) → ∀ F : Stop.Interp,
      ReturnsInLeavingWide c.assume p.checked os f .any (c.pre enc p.checked.prog fn s) ((s.at F).post enc p.checked.prog fn c.apart c.fresh c.handsOn c.again)) : c.holds p s := by
  simp only [joinedFacts, Bool.and_eq_true, beq_iff_eq, Array.all_eq_true_iff_forall_mem, List.all_eq_true, decide_eq_true_eq] at closed
  obtain ⟨⟨⟨⟨⟨⟨⟨⟨⟨⟨⟨⟨⟨⟨⟨⟨⟨⟨⟨⟨⟨⟨⟨⟨⟨⟨⟨⟨⟨⟨⟨k1, k2⟩, k3⟩, k4⟩, k5⟩, k6⟩, k7⟩, k8⟩, k9⟩, k10⟩, k11⟩, k12⟩, k13⟩, k14⟩, k15⟩, k16⟩, k17⟩, k17b⟩, k18⟩, k19⟩, k20⟩, k21⟩, k22⟩, k23⟩, k23b⟩, k24⟩, k24b⟩, k24c⟩, k25⟩, k26⟩, k27⟩, k28⟩ := closed
  have hq : ∀ os : Os, Stop.quiet p.checked.prog os := fun os k hk => by rw [k9] at hk; cases hk
  refine ⟨k1, hn, hs, hsp, k2, k3, by unfold OpenClaim.startFits; rw [hstart]; exact k24, by unfold OpenClaim.startTold; rw [hstart]; exact ⟨hin, hun, hi4⟩, f, fn, hfn, hf, ⟨k4, k19⟩, (fun hb => by rw [hnb] at hb; cases hb), by unfold OpenClaim.namedList; rw [hfo]; exact k5, hinst, hwrap,
    k6.trans k7.symm, ⟨k8.trans k9.symm, by unfold Program.envWorded; rw [k9]; rfl, k23b⟩, k10, k11, k12, k13, k14, ⟨k15, k27, k28⟩, ⟨k16, k20⟩, ⟨k17, k21, k25, k26⟩, ⟨k22, k24b, k24c, k17b⟩, (by rw [hout, hnar]; cases hsh : c.shortTexts with | none => simp | some _ => rw [hsh] at k23; cases k23), fun n hn' => varReadable_some (k18 n hn'),
    ⟨_, by unfold OpenClaim.world; rw [hout, hstart]; exact WideRow.started_initial, hq _⟩, [], by unfold OpenClaim.lists; rw [hfo], fun os st _ H enc inj => ?_⟩
  have st' : os.Started := by unfold OpenClaim.world at st; rw [hout, hstart] at st; exact st
  rw [OpenClaim.post_not_still hstill]
  unfold OpenClaim.form
  rw [hstart, k6]
  intro F
  have e1 : c.okInput = Input.okWide := by unfold OpenClaim.okInput; rw [hnb]
  have e2 : c.atReturn p.checked.prog = leavingAtReturn p.checked.prog := by unfold OpenClaim.atReturn; rw [hlv]
  have e3 : c.always p.checked.prog [] = nothingAlways := by unfold OpenClaim.always; rw [hfo]
  have e4 : s.post enc p.checked.prog fn F c.outside c.apart c.fresh c.handsOn c.again = (s.at F).post enc p.checked.prog fn c.apart c.fresh c.handsOn c.again := by rw [hout]; rfl
  rw [e1, e2, e3]
  show ReturnsInOpen _ _ _ _ _ _ _ _ (s.post enc p.checked.prog fn F c.outside c.apart c.fresh c.handsOn c.again) _ _
  rw [e4]
  exact h os st' H enc inj F k24
end Go.Proofs.Ytmllcfkgkkbkpaa
