/-
  THE STARTER: it closes 'quit'; a go statement; the phase's begin; what stands still; the run's end.
-/
import Derived.Test.YtmllcfkgkkbkpaaPk1
import Derived.Test.YtmllcfkgkkbkpaaPk0
import Derived.Test.YtmllcfkgkkbkpaaChecked
import Derived.Test.YtmllcfkgkkbkpaaProg
import Derived.Conc.WgGenN3
import Derived.WalkKit
import Derived.ProofKit
import Derived.OpenShut
import Derived.Handy
import Derived.Lib.Hide
import Derived.Deep.AppendSrc
import Derived.Deep.QuietTactic
import Derived.BigQuiet
import Derived.Lib.SliceRun
import Derived.Deep.RegionHeld3
import Derived.Lib.Strings
namespace Go.Proofs.Ytmllcfkgkkbkpaa
open Go Go.Conc
open Go.ConcN (sumTo upd sumTo_upd sumTo_upd_out upd_ne upd_same CT RelBy WD WgLive OkW Ok0 Apart PermW get_map_set get_map_set_same le_sumTo Deaf_absent)
open Go.ConcR (KK wgBlock WgAt stA smA rd wr mk DC0 Bk bk_of_mute ofEvent_loc_mark g_of_ofEvents)

section
variable {P : Program} {ty : TypeId} {z z' : Value} {Post : Value → World → Prop} {σ : Ph} {Ow : Nat → Nat → Prop} {g : Goroutine} {w w' : World} {gs gs' : Array Goroutine} {t : Trace} {D D' : Nat → WD} {st sm st' sm' : Int}
theorem TI.congr {N n : Nat} (h : TI σ Ow N t n D) (hd : ∀ i, 0 < i → i < N → (D' i).deaf = (D i).deaf) (hs : ∀ i, σ.first ≤ i → i < N → (D' i).stage = (D i).stage) : TI σ Ow N t n D' :=
  { h with dw := fun i i0 hi => (h.dw i i0 hi).trans (hd i i0 hi).symm, rel := fun i i0 hi hx => h.rel i i0 hi (by rw [← hs i i0 hi]; exact hx) }
theorem RF.grow {F F' : Nat → Prop} (hF : ∀ b, F b → F' b) (hn : ∀ b o, F' b → ¬ F b → w.heap[b]? = some o → objTame o = true) {w₁ : World} (r : RF F w w₁) : RF F' w w₁ := by
  refine ⟨fun b hb => r.out b fun x => hb (hF b x), r.size, fun b h1 h2 => hF b (r.fresh b h1 h2), fun h b o hb ho => ?_, r.tape, r.os, r.output⟩
  by_cases hx : F b
  · exact r.real (fun b o hb ho => h b o (hF b hb) ho) b o hx ho
  · rw [r.out b hx] at ho
    exact hn b o hb hx ho
/-! ### 'quit' is closed -/
theorem sit_shutq {Wg q c : Nat} {K O : Nat → Prop} {al : Bool} {rem : List Value} {s m d : Nat} (h : Sit P ty Wg q c K z z' al O rem false s m d g w) {a a' : Goroutine} {w₁ : World} (hq : w₁.heap[q]? = some (.chan 0 #[] true 0 0 false)) (hw : (mayWake P a && a'.status != .blocked && a'.status != .waiting) = true) :
    ∃ m', Sit P ty Wg q c K z z' al O rem true s m' d (woken P a a' w₁ g) w := by
  cases h with
  | park e e' h =>
    refine ⟨1, ?_⟩
    rename_i g₀ v vs
    have : woken P a a' w₁ (parked (core g₀) (selCases q c z z' v) .select) = { parked (core g₀) (selCases q c z z' v) .select with status := .running } := by
      unfold woken
      rw [if_pos hw]
      exact again_sel_shut hq
    rw [this]
    exact .walk (m := 0) e (Goes.stop fun w₂ r₂ => WSelG.again (h w₂ r₂))
  | walk e h => exact ⟨_, by rw [woken_run (Goes.running (fun _ _ x => x.1) w (RWk.refl w) h)]; exact .walk e h⟩
  | make e h => exact ⟨_, by rw [woken_run (Goes.running (fun _ _ x => x.1) w (RWk.refl w) h)]; exact .make e h⟩
  | shut h => exact ⟨_, by rw [woken_run (Goes.running (fun _ _ x => x.1) w (RWk.refl w) h)]; exact .shut h⟩
  | r0 h => exact ⟨_, by rw [woken_run (Goes.running (fun _ _ x => x.1) w (RWk.refl w) h)]; exact .r0 h⟩
  | k1 h => exact ⟨_, by rw [woken_run (Goes.running (fun _ _ x => x.1) w (RWk.refl w) h)]; exact .k1 h⟩
  | d1 h => exact ⟨_, by rw [woken_run (Goes.running (fun _ _ x => x.1) w (RWk.refl w) h)]; exact .d1 h⟩
  | d2 h => exact ⟨_, by rw [woken_run (Goes.running (fun _ _ x => x.1) w (RWk.refl w) h)]; exact .d2 h⟩
  | d3 h => exact ⟨_, by rw [woken_run (Goes.running (fun _ _ x => x.1) w (RWk.refl w) h)]; exact .d3 h⟩
  | d4 h => exact ⟨_, by rw [woken_run (Goes.running (fun _ _ x => x.1) w (RWk.refl w) h)]; exact .d4 h⟩
  | quit h => exact ⟨_, by rw [woken_quitsD h]; exact .quit h⟩
/-- ████ close(quit). ████ -/
theorem ms_close (hr : g.status = .running) (hb : σ.tag ≠ .blk) (ht : σ.tag ≠ .idle) (hc : σ.closed = false) (hmw : mayWake P g = true)
    (h : ∀ w₁, RF σ.F w w₁ → w₁.heap[σ.quit]? = some (.chan 0 #[] false 0 0 false) → ∃ g', g'.status = .running ∧ stepG P true g w₁ = .go g' (w₁.setChan σ.quit 0 #[] true 0 0 false) #[⟨.obj σ.quit, false, true⟩, ⟨.obj σ.quit, true, true⟩] ∧ MS P ty z z' Post { σ with closed := true } g' (w₁.setChan σ.quit 0 #[] true 0 0 false)) : MS P ty z z' Post σ g w := by
  refine ms_node hr hb fun w₁ r₁ gs sl t D hI hg => .inl ?_
  obtain ⟨Ow, ⟨st, sm, hW⟩, hT⟩ := hI
  have hq := hW.quit ht
  rw [hc] at hq
  have hql := (Array.getElem?_eq_some_iff.1 hq).1
  obtain ⟨g', hr', hgo, hms⟩ := h w₁ r₁ hq
  generalize hw' : w₁.setChan σ.quit 0 #[] true 0 0 false = w' at hgo hms
  have hq' : w'.heap[σ.quit]? = some (.chan 0 #[] true 0 0 false) := by rw [← hw']; exact setChan_same hq
  have same : ∀ b, b ≠ σ.quit → w'.heap[b]? = w₁.heap[b]? := fun b hb => by rw [← hw']; exact setChan_ne hb
  have hsz' : w'.heap.size = w₁.heap.size := by rw [← hw']; simp [World.setChan]
  have hwk : (mayWake P g && g'.status != .blocked && g'.status != .waiting) = true := by rw [hmw, hr']; rfl
  have hlt : 0 < gs.size := (Array.getElem?_eq_some_iff.1 hg).1
  have hsz : ((gs.map (woken P g g' w')).setIfInBounds 0 g').size = gs.size := by simp
  -- each worker's record
  have hex : ∀ i, ∃ x : WD, x.stage = (D i).stage ∧ x.deaf = (D i).deaf ∧ (i = 0 → x = D 0) ∧ (0 < i → i < gs.size → ∃ y, ((gs.map (woken P g g' w')).setIfInBounds 0 g')[i]? = some y ∧ Sit P ty σ.Wg σ.quit (σ.ch i) (σ.K i) z z' σ.al (Ow i) (σ.rem i) true x.stage x.fuel x.deaf y w') := by
    intro i
    by_cases hi : 0 < i ∧ i < gs.size
    · obtain ⟨y, hy, hs⟩ := hW.sit i hi.1 hi.2
      rw [hc] at hs
      obtain ⟨m', hs'⟩ := sit_shutq hs (a := g) (a' := g') hq' hwk
      refine ⟨⟨(D i).stage, m', (D i).deaf⟩, rfl, rfl, fun e => by omega, fun _ _ => ⟨_, by rw [get_map_set _ _ _ _ (by omega), hy]; rfl, hs'.rely ⟨fun b hb => hb.elim (fun hb => same b (hW.layq ht b (hW.klay i b hb)).1) fun hb => same b (hT.ow.q ht i b hb), fun hl => ?_⟩⟩⟩
      obtain ⟨a, b, y⟩ := hl
      exact ⟨a, b, y.of_block (same _ (hW.qw ht).symm)⟩
    · exact ⟨D i, rfl, rfl, fun e => by rw [e], fun a b => absurd ⟨a, b⟩ hi⟩
  let D' : Nat → WD := fun i => (hex i).choose
  have hD : ∀ i, (D' i).stage = (D i).stage ∧ (D' i).deaf = (D i).deaf ∧ (i = 0 → D' i = D 0) ∧ (0 < i → i < gs.size → ∃ y, ((gs.map (woken P g g' w')).setIfInBounds 0 g')[i]? = some y ∧ Sit P ty σ.Wg σ.quit (σ.ch i) (σ.K i) z z' σ.al (Ow i) (σ.rem i) true (D' i).stage (D' i).fuel (D' i).deaf y w') := fun i => (hex i).choose_spec
  have hv : Vd gs.size D' = Vd gs.size D := Go.ConcN.sumTo_congr fun a _ => by simp only [cntD, (hD a).1]
  refine ⟨_, _, runT_crowd_go (sl := sl) hg (by simpa using hgo), hms w' (.refl _ _) _ sl _ D' ⟨Ow, ⟨st, sm, ?_⟩, ?_⟩ (get_map_set_same _ _ _ hlt)⟩
  · refine ⟨hW.pos, by rw [hsz]; exact hW.le, by rw [(hD 0).2.2.1 rfl]; exact hW.zero, fun i i0 hi => (hD i).2.2.2 i0 (hsz ▸ hi), fun i i0 hi => (hD i).1.trans (hW.old i i0 hi), fun i i0 hi => ?_, fun _ => hq', fun _ => (hW.wg ht).of_block (same _ (hW.qw ht).symm), by rw [hsz]; exact hW.mode.congr fun a _ => (hD a).1, by rw [hsz, hv]; exact hW.vb, fun e => (by cases e),
      fun e => absurd e ht, by rw [hsz]; exact hW.room, by rw [hsz]; exact hW.size, fun j j0 hj => hW.fch j j0 (hsz ▸ hj), hW.fq, hW.fw, fun a b a0 ha b0 hb => hW.inj a b a0 (hsz ▸ ha) b0 (hsz ▸ hb), fun j j0 hj => hW.chq j j0 (hsz ▸ hj), fun j j0 hj => hW.chw j j0 (hsz ▸ hj), hW.qw,
      hW.klay, hW.layF, fun b o hb => (same b (hW.layq ht b (by rw [hb]; rfl)).1).trans (hW.layat b o hb), hW.layq, fun j b j0 hj => hW.laych j b j0 (hsz ▸ hj)⟩
    obtain ⟨s, r, hch⟩ := hW.chan i i0 (hsz ▸ hi)
    exact ⟨s, r, by rw [(hD i).1]; exact (same _ (hW.chq i i0 (hsz ▸ hi))).trans hch⟩
  · rw [hsz]
    have := hT.step0 (fn := g.frame.fn) (pos := g.frame.place) (es := #[⟨.obj σ.quit, false, true⟩, ⟨.obj σ.quit, true, true⟩]) (d' := σ.d0) (n' := w'.heap.size) (Nat.le_of_eq hsz'.symm)
      (by
        intro op hop
        obtain ⟨e, he, rfl⟩ := Go.Conc.mem_ofEvents hop
        simp at he
        refine ⟨rfl, fun x hx => ?_⟩
        rcases he with rfl | rfl
        · simp only [MemAct.ofEvent, MemAct.touch?, Option.some.injEq] at hx
          subst hx
          exact .inr ⟨(by rintro ⟨a, e, _⟩; cases e), fun _ _ _ ⟨a, e, _⟩ => (by cases e), fun e => by cases e⟩
        · cases hx)
      (by intro e he; simp at he; rcases he with rfl | rfl <;> (show σ.quit < _; omega)) (by intro e he; simp at he; rcases he with rfl | rfl <;> simp) rfl
    have := this.congr (D' := D') (fun i _ _ => (hD i).2.1) (fun i _ _ => (hD i).1)
    exact ⟨this.ct, this.low, this.d0, this.dw, this.nrel, this.handed, this.rel, this.swF, this.swW, this.apart, this.layF, this.klay, this.chF, this.pos, this.ow.re rfl rfl rfl rfl _root_.id rfl rfl rfl, this.swn, this.layn, this.qwn, this.chn⟩

/-! ### a go statement -/
def stillK (σ : Ph) : Nat → Prop := fun b => (σ.lay b).isSome = true ∧ ¬ σ.SW b
def spawned (σ : Ph) (c : Nat) (items : List Value) (room : Nat) : Ph :=
  { σ with F := fun b => σ.F b ∨ b = c, K := upd σ.K (σ.first + σ.n) (stillK σ), ch := upd σ.ch (σ.first + σ.n) c, rem := upd σ.rem (σ.first + σ.n) items, n := σ.n + 1, tag := .opn false, vb := σ.vb + 1, room := room }
theorem sumTo_succ' (f : Nat → Nat) (j : Nat) : sumTo (j + 1) f = sumTo j f + f j := rfl
/-- ████ A go STATEMENT. ████ -/
theorem ms_spawn (hr : g.status = .running) (ht : σ.tag = .opn true) (hc : σ.closed = false) (hd0 : σ.d0 = 0) {c : Nat} (hcF : ¬ σ.F c) (hcw : w.heap[c]? = some (.chan 0 #[] false 0 0 false)) {items : List Value} {room : Nat} (hroom : σ.room = room + 1)
    (h : ∀ w₁, RF σ.F w w₁ → WgLive ty σ.Wg w₁ → (∀ b o, σ.lay b = some o → w₁.heap[b]? = some o) → ∃ g' child, stepG P true g w₁ = .spawn g' child w₁ #[] ∧ WNext P ty σ.Wg σ.quit c (stillK σ) z z' σ.al items noO child w₁ ∧
      MS P ty z z' Post (spawned σ c items room) g' w₁) : MS P ty z z' Post σ g w := by
  refine ms_node hr (by rw [ht]; simp) fun w₁ r₁ gs sl t D hI hg => .inl ?_
  obtain ⟨Ow, ⟨st, sm, hW⟩, hT⟩ := hI
  have hni : σ.tag ≠ .idle := by rw [ht]; simp
  obtain ⟨g', child, hgo, hch, hms⟩ := h w₁ r₁ ⟨_, _, hW.wg hni⟩ hW.layat
  have hc1 : w₁.heap[c]? = some (.chan 0 #[] false 0 0 false) := (r₁.out c hcF).trans hcw
  have hlt : 0 < gs.size := (Array.getElem?_eq_some_iff.1 hg).1
  have hN : gs.size = σ.first + σ.n := hW.size
  have hsz : ((gs.setIfInBounds 0 g').push child).size = gs.size + 1 := by simp
  obtain ⟨x, hx1, hx2, hx3, hx4⟩ : ∃ x : WD, Sit P ty σ.Wg σ.quit c (stillK σ) z z' σ.al noO items false x.stage x.fuel x.deaf child w₁ ∧ 8 ≤ x.stage ∧ x.deaf = 0 ∧ (items ≠ [] → x.stage = 9) := by
    cases items with
    | nil =>
      obtain ⟨m, hch⟩ := hch
      exact ⟨⟨8, m, 0⟩, .shut hch, by simp, rfl, fun e => absurd rfl e⟩
    | cons v vs =>
      rcases hch with ⟨m, hch⟩ | ⟨m, hch⟩
      · exact ⟨⟨9, m + 1, 0⟩, .walk rfl hch, by simp, rfl, fun _ => rfl⟩
      · exact ⟨⟨9, m + 200, 0⟩, .make rfl hch, by simp, rfl, fun _ => rfl⟩
  have hx8 : ∃ s r, w₁.heap[c]? = some (.chan 0 #[] (decide (x.stage < 8)) s r false) := ⟨0, 0, by rw [hc1]; simp; omega⟩
  have hVx : Vd (gs.size + 1) (upd D gs.size x) = Vd gs.size D + 1 := by
    simp only [Vd, sumTo_succ', upd_same]
    rw [sumTo_upd_out D x cntD (Nat.le_refl _)]
    have : cntD x = 1 := by simp only [cntD]; rw [if_pos (by omega)]
    omega
  have hm : ModeD gs.size D (.opn true) st sm := by rw [← ht]; exact hW.mode
  have hidx : ∀ i, i < gs.size + 1 → i ≠ gs.size → i < gs.size := fun i h1 h2 => by omega
  have hF' : ∀ b, (spawned σ c items room).F b ↔ (σ.F b ∨ b = c) := fun _ => Iff.rfl
  have hchg : ∀ i, i ≠ gs.size → (spawned σ c items room).ch i = σ.ch i := fun i hi => upd_ne σ.ch _ (by omega)
  have hchs : (spawned σ c items room).ch gs.size = c := by rw [hN]; exact upd_same _ _ _
  have hremg : ∀ i, i ≠ gs.size → (spawned σ c items room).rem i = σ.rem i := fun i hi => upd_ne σ.rem _ (by omega)
  have hrems : (spawned σ c items room).rem gs.size = items := by rw [hN]; exact upd_same _ _ _
  have hKg : ∀ i, i ≠ gs.size → (spawned σ c items room).K i = σ.K i := fun i hi => upd_ne σ.K _ (by omega)
  have hKs : (spawned σ c items room).K gs.size = stillK σ := by rw [hN]; exact upd_same _ _ _
  have hne : ∀ b, σ.F b → b ≠ c := fun b hb e => hcF (e ▸ hb)
  refine ⟨_, _, runT_crowd_spawn (sl := sl) hg (by simpa using hgo), hms w₁ (.refl _ _) _ sl _ (upd D gs.size x) ⟨Ow, ⟨st, sm, ?_⟩, ?_⟩ (by rw [Array.getElem?_push_lt (by simpa using hlt)]; simp)⟩
  · refine ⟨hW.pos, by rw [hsz]; have := hW.le; show σ.first ≤ _; omega, by rw [upd_ne D _ (by omega)]; exact hW.zero, fun i i0 hi => ?_, fun i i0 hi => ?_, fun i i0 hi => ?_, fun _ => hW.quit hni, fun _ => hW.wg hni, ?_, ?_, fun hcl i i0 hi hr => ?_, fun e => (by cases e), by rw [hsz]; have := hW.room; show gs.size + 1 + room < _; omega, by rw [hsz]; show _ = σ.first + (σ.n + 1); omega,
      fun i i0 hi => ?_, fun _ => .inl (hW.fq hni), fun _ => .inl (hW.fw hni), fun i j i0 hi j0 hj e => ?_, fun i i0 hi => ?_, fun i i0 hi => ?_, fun _ => hW.qw hni, fun i b hb => ?_, fun b hb => .inl (hW.layF b hb), hW.layat, fun _ => hW.layq hni, fun i b i0 hi hb => ?_⟩
    · rw [hsz] at hi
      by_cases e : i = gs.size
      · subst e
        refine ⟨child, ?_, ?_⟩
        · have : gs.size = (gs.setIfInBounds 0 g').size := by simp
          rw [this]
          exact Array.getElem?_push_size
        · rw [upd_same, hchs, hrems, hKs]
          have eO : Ow gs.size = noO := by funext b; exact propext ⟨fun hb => by have := hT.ow.idx _ b hb; omega, fun hb => hb.elim⟩
          show Sit P ty σ.Wg σ.quit c (stillK σ) z z' σ.al (Ow gs.size) items σ.closed _ _ _ child w₁
          rw [hc, eO]
          exact hx1
      · obtain ⟨y, hy, hs⟩ := hW.sit i i0 (hidx i hi e)
        refine ⟨y, ?_, ?_⟩
        · rw [Array.getElem?_push_lt (by simpa using hidx i hi e), ← hy]
          rw [← Array.getElem?_eq_getElem, Array.getElem?_setIfInBounds_ne (by omega)]
        · rw [upd_ne D _ e, hchg i e, hremg i e, hKg i e]
          exact hs
    · have hi' : i < σ.first := hi
      rw [upd_ne D _ (by have := hW.le; omega)]
      exact hW.old i i0 hi'
    · rw [hsz] at hi
      by_cases e : i = gs.size
      · subst e; rw [upd_same, hchs]; exact hx8
      · rw [upd_ne D _ e, hchg i e]; exact hW.chan i i0 (hidx i hi e)
    · rw [hsz]
      cases hm with
      | opn ho e =>
        refine .opn (fun i hi => ?_) (by rw [hVx, e]; simp)
        by_cases e : i = gs.size
        · subst e; rw [upd_same]; exact .inl (by omega)
        · rw [upd_ne D _ e]; exact ho i (hidx i hi e)
      | reg hx _ _ _ => rcases hx with hx | hx <;> cases hx
      | last L hx _ _ _ _ => rcases hx with hx | hx <;> cases hx
    · rw [hsz, hVx]
      have := hW.vb
      show _ ≤ σ.vb + 1
      omega
    · rw [hsz] at hi
      by_cases e : i = gs.size
      · subst e; rw [upd_same]; rw [hrems] at hr; exact hx4 hr
      · rw [upd_ne D _ e]; rw [hremg i e] at hr; exact hW.still hcl i i0 (hidx i hi e) hr
    · rw [hsz] at hi
      by_cases e : i = gs.size
      · subst e; rw [hchs]; exact .inr rfl
      · rw [hchg i e]; exact .inl (hW.fch i i0 (hidx i hi e))
    · rw [hsz] at hi hj
      by_cases e1 : i = gs.size
      · by_cases e2 : j = gs.size
        · omega
        · subst e1
          rw [hchs, hchg j e2] at e
          exact absurd e.symm (hne _ (hW.fch j j0 (hidx j hj e2)))
      · by_cases e2 : j = gs.size
        · subst e2
          rw [hchs, hchg i e1] at e
          exact absurd e (hne _ (hW.fch i i0 (hidx i hi e1)))
        · rw [hchg i e1, hchg j e2] at e
          exact hW.inj i j i0 (hidx i hi e1) j0 (hidx j hj e2) e
    · rw [hsz] at hi
      by_cases e : i = gs.size
      · subst e; rw [hchs]; exact (hne _ (hW.fq hni)).symm
      · rw [hchg i e]; exact hW.chq i i0 (hidx i hi e)
    · rw [hsz] at hi
      by_cases e : i = gs.size
      · subst e; rw [hchs]; exact (hne _ (hW.fw hni)).symm
      · rw [hchg i e]; exact hW.chw i i0 (hidx i hi e)
    · by_cases e : i = gs.size
      · subst e; rw [hKs] at hb; exact hb.1
      · rw [hKg i e] at hb; exact hW.klay i b hb
    · rw [hsz] at hi
      by_cases e : i = gs.size
      · subst e; rw [hchs]; exact hne _ (hW.layF b hb)
      · rw [hchg i e]; exact hW.laych i b i0 (hidx i hi e) hb
  · rw [hsz]
    have hops : ((MemOp.ofEvents 0 g.frame.fn g.frame.place #[]).push { g := 0, fn := g.frame.fn, pos := g.frame.place, act := .go gs.size } |>.push { g := gs.size, fn := child.frame.fn, pos := g.frame.place, act := .start }) = #[({ g := 0, fn := g.frame.fn, pos := g.frame.place, act := .go gs.size } : MemOp), { g := gs.size, fn := child.frame.fn, pos := g.frame.place, act := .start }] := rfl
    rw [hops]
    have hA' : Apart (ShW σ.SW) (OwL Ow) (RdK (spawned σ c items room).K (spawned σ c items room).ch) := by
      refine ⟨hT.apartK.own, fun k k' _ ⟨a, e, ho⟩ hr => ?_, hT.apartK.ownSh, fun k l hr ⟨a', e', hs⟩ => ?_⟩
      · subst e
        rcases hr with ⟨a', e', hk⟩ | e'
        · cases e'
          refine hT.ow.lay k _ ho ?_
          by_cases ek : k' = gs.size
          · subst ek; rw [hKs] at hk; exact hk.1
          · rw [hKg k' ek] at hk; exact hT.klay k' _ hk
        · cases e'
      rcases hr with ⟨a, e, hk⟩ | e
      case inr => rw [e] at e'; cases e'
      subst e
      cases e'
      by_cases ek : k = gs.size
      · subst ek; rw [hKs] at hk; exact hk.2 hs
      · rw [hKg k ek] at hk; exact hT.apart k _ hk hs
    have hct : CT (ShW σ.SW) (OwL Ow) (RdK (spawned σ c items room).K (spawned σ c items room).ch) t (gs.size - 1) := ct_congr hT.ct fun k k1 kj l => by
      have : k ≠ gs.size := by omega
      simp only [RdK, hKg k this, hchg k this]
    have hgo1 : gs.size = gs.size - 1 + 1 := by omega
    have hfk := hct.fork hA' (x := { g := 0, fn := g.frame.fn, pos := g.frame.place, act := .go gs.size }) (y := { g := gs.size, fn := child.frame.fn, pos := g.frame.place, act := .start }) ⟨rfl, by show MemAct.go gs.size = .go (gs.size - 1 + 1); rw [← hgo1]⟩ ⟨by show gs.size = _; omega, rfl⟩ (hT.d0.trans hd0)
    have hdf : ∀ k, Deaf (t ++ #[({ g := 0, fn := g.frame.fn, pos := g.frame.place, act := .go gs.size } : MemOp), { g := gs.size, fn := child.frame.fn, pos := g.frame.place, act := .start }]) k = Deaf t k := fun k =>
      Deaf_plain t k [_, _] fun op hop => by simp at hop; rcases hop with rfl | rfl <;> simp
    have hnt : ∀ op ∈ #[({ g := 0, fn := g.frame.fn, pos := g.frame.place, act := .go gs.size } : MemOp), { g := gs.size, fn := child.frame.fn, pos := g.frame.place, act := .start }], op.act.touch? = none := fun op hop => by simp at hop; rcases hop with rfl | rfl <;> rfl
    refine ⟨by rw [show gs.size + 1 - 1 = gs.size - 1 + 1 by omega]; exact hfk, seen_app hT.low (fun op hop => by simp at hop; rcases hop with rfl | rfl <;> trivial), (hdf 0).trans hT.d0, fun i i0 hi => ?_, fun op hop a e => ?_, fun i i0 hi => (hT.handed i i0 hi).app fun op hop _ => hnt op hop, fun i i0 hi hs => ?_, fun b hb => .inl (hT.swF b hb), fun _ => hT.swW hni, fun k b hk hs => ?_, fun b hb => .inl (hT.layF b hb), fun i b hb => ?_, fun i i0 hi => ?_, hT.pos, ⟨hT.ow.lt, fun i b hb => Nat.lt_succ_of_lt (hT.ow.idx i b hb), fun i b hb => .inl (hT.ow.F i b hb), hT.ow.lay, hT.ow.sw, fun i b j hb j0 hj => ?_, fun _ => hT.ow.q hni, hT.ow.wne, hT.ow.inj, fun ha x hx => .inl (hT.ow.wide ha x hx)⟩, hT.swn, hT.layn, fun _ => hT.qwn hni, fun i i0 hi => ?_⟩
    · rw [hdf i]
      by_cases e : i = gs.size
      · subst e
        rw [upd_same, hx3]
        exact Deaf_absent fun k op hk e' => by have := hT.ct.gs k op hk; omega
      · rw [upd_ne D _ e]; exact hT.dw i i0 (hidx i hi e)
    · rcases Array.mem_append.1 hop with hop | hop
      · exact hT.nrel op hop a e
      · simp at hop
        rcases hop with rfl | rfl <;> cases e
    · by_cases e : i = gs.size
      · subst e; rw [upd_same] at hs; omega
      · rw [upd_ne D _ e] at hs
        obtain ⟨r, hr⟩ := hT.rel i i0 (hidx i hi e) hs
        exact ⟨r, relBy_appNone hr fun op hop _ => hnt op hop⟩
    · exact hA'.rdSh k (.cell ⟨b, 0, none⟩) (.inl ⟨_, rfl, hk⟩) ⟨_, rfl, hs⟩
    · by_cases e : i = gs.size
      · subst e; rw [hKs] at hb; exact hb.1
      · rw [hKg i e] at hb; exact hT.klay i b hb
    · by_cases e : i = gs.size
      · subst e; rw [hchs]; exact .inr rfl
      · rw [hchg i e]; exact .inl (hT.chF i i0 (hidx i hi e))
    · by_cases e : j = gs.size
      · subst e; rw [hchs]; exact hne _ (hT.ow.F i b hb)
      · rw [hchg j e]; exact hT.ow.ch i b j hb j0 (hidx j hj e)
    · by_cases e : i = gs.size
      · subst e; rw [hchs]; exact (Array.getElem?_eq_some_iff.1 hc1).1
      · rw [hchg i e]; exact hT.chn i i0 (hidx i hi e)
end
end Go.Proofs.Ytmllcfkgkkbkpaa
/-
  THE STARTER: what stands still; a phase begins; the run begins and ends.
-/
namespace Go.Proofs.Ytmllcfkgkkbkpaa
open Go Go.Conc
open Go.ConcN (sumTo upd sumTo_upd sumTo_upd_out upd_ne upd_same CT RelBy WD WgLive OkW Ok0 Apart PermW get_map_set get_map_set_same le_sumTo Deaf_absent)
open Go.ConcR (KK wgBlock WgAt stA smA rd wr mk DC0 Bk bk_of_mute ofEvent_loc_mark g_of_ofEvents)

section
variable {P : Program} {ty : TypeId} {z z' : Value} {Post : Value → World → Prop} {σ : Ph} {Ow : Nat → Nat → Prop} {g : Goroutine} {w w' : World} {gs gs' : Array Goroutine} {t : Trace} {D D' : Nat → WD} {st sm st' sm' : Int}
/-- From now on this block stands still; the starter leaves it alone. -/
def freeze (σ : Ph) (b : Nat) (o : Obj) : Ph := { σ with F := fun x => σ.F x ∨ x = b, lay := upd σ.lay b (some o) }
theorem lay_freeze {b : Nat} {o : Obj} {x : Nat} (h : ((freeze σ b o).lay x).isSome = true) : x = b ∨ (σ.lay x).isSome = true := by
  by_cases e : x = b
  · exact .inl e
  · right
    simp only [freeze] at h
    rwa [upd_ne σ.lay _ e] at h
theorem freeze_lay {b : Nat} {o : Obj} {x : Nat} (h : (σ.lay x).isSome = true) : ((freeze σ b o).lay x).isSome = true := by
  by_cases e : x = b
  · subst e; simp [freeze, upd_same]
  · simp only [freeze]; rwa [upd_ne σ.lay _ e]
theorem ms_freeze {b : Nat} {o : Obj} (hF : ¬ σ.F b) (hb : w.heap[b]? = some o) (ht : objTame o = true) (h : MS P ty z z' Post (freeze σ b o) g w) : MS P ty z z' Post σ g w := by
  intro w₁ r gs sl t D hI hg
  have hne : ∀ x, σ.F x → x ≠ b := fun x hx e => hF (e ▸ hx)
  refine h w₁ (RF.grow (fun _ h => .inl h) (fun x o' hx hnx ho => ?_) r) gs sl t D ?_ hg
  · rcases hx with hx | rfl
    · exact absurd hx hnx
    · rw [hb] at ho; cases ho; exact ht
  · obtain ⟨Ow, ⟨st, sm, hW⟩, hT⟩ := hI
    refine ⟨Ow, ⟨st, sm, hW.pos, hW.le, hW.zero, hW.sit, hW.old, hW.chan, hW.quit, hW.wg, hW.mode, hW.vb, hW.still, hW.none, hW.room, hW.size, fun i i0 hi => .inl (hW.fch i i0 hi), fun e => .inl (hW.fq e), fun e => .inl (hW.fw e), hW.inj, hW.chq, hW.chw, hW.qw, fun i x hx => freeze_lay (hW.klay i x hx), fun x hx => ?_, fun x o' hx => ?_, fun e x hx => ?_, fun i x i0 hi hx => ?_⟩,
      hT.ct, hT.low, hT.d0, hT.dw, hT.nrel, hT.handed, hT.rel, fun x hx => .inl (hT.swF x hx), hT.swW, hT.apart, fun x hx => ?_, fun i x hx => freeze_lay (hT.klay i x hx), fun i i0 hi => .inl (hT.chF i i0 hi), hT.pos, ⟨hT.ow.lt, hT.ow.idx, fun i x hx => .inl (hT.ow.F i x hx), fun i x hx hl => (lay_freeze hl).elim (fun e => hF (e ▸ hT.ow.F i x hx)) (hT.ow.lay i x hx), hT.ow.sw, hT.ow.ch, hT.ow.q, hT.ow.wne, hT.ow.inj, fun ha x hx => .inl (hT.ow.wide ha x hx)⟩, hT.swn, fun x hx => (lay_freeze hx).elim (fun e => e ▸ (Array.getElem?_eq_some_iff.1 ((r.out b hF).trans hb)).1) (hT.layn x), hT.qwn, hT.chn⟩
    · rcases lay_freeze hx with rfl | hx
      · exact .inr rfl
      · exact .inl (hW.layF x hx)
    · by_cases e : x = b
      · subst e
        simp only [freeze, upd_same, Option.some.injEq] at hx
        subst hx
        exact (r.out x hF).trans hb
      · simp only [freeze] at hx
        rw [upd_ne σ.lay _ e] at hx
        exact hW.layat x o' hx
    · rcases lay_freeze hx with rfl | hx
      · exact ⟨(hne _ (hW.fq e)).symm, (hne _ (hW.fw e)).symm⟩
      · exact hW.layq e x hx
    · rcases lay_freeze hx with rfl | hx
      · exact (hne _ (hW.fch i i0 hi)).symm
      · exact hW.laych i x i0 hi hx
    · rcases lay_freeze hx with rfl | hx
      · exact .inr rfl
      · exact .inl (hT.layF x hx)
/-- Between two phases. -/
theorem ms_idle (ht : σ.tag = .fin) (hn : σ.n = 0) (h : MS P ty z z' Post { σ with tag := .idle } g w) : MS P ty z z' Post σ g w := by
  intro w₁ r gs sl t D hI hg
  refine h w₁ r gs sl t D ?_ hg
  obtain ⟨Ow, ⟨st, sm, hW⟩, hT⟩ := hI
  have hm : ModeD gs.size D .fin st sm := by rw [← ht]; exact hW.mode
  have hA : AllD gs.size D := by
    cases hm with
    | fin hA => exact hA
    | reg hx _ _ _ => rcases hx with hx | hx <;> cases hx
    | last L hx _ _ _ _ => rcases hx with hx | hx <;> cases hx
  exact ⟨Ow, ⟨st, sm, hW.pos, hW.le, hW.zero, hW.sit, hW.old, hW.chan, fun e => absurd rfl e, fun e => absurd rfl e, .idle hA, hW.vb, hW.still, fun _ => by have := hW.size; show σ.first = _; omega, hW.room, hW.size, hW.fch, fun e => absurd rfl e, fun e => absurd rfl e, hW.inj, hW.chq, hW.chw, fun e => absurd rfl e, hW.klay, hW.layF, hW.layat, fun e => absurd rfl e, hW.laych⟩,
    hT.ct, hT.low, hT.d0, hT.dw, hT.nrel, hT.handed, hT.rel, hT.swF, fun e => absurd rfl e, hT.apart, hT.layF, hT.klay, hT.chF, hT.pos, hT.ow.re rfl rfl rfl rfl (fun e => absurd rfl e) rfl rfl rfl, hT.swn, hT.layn, fun e => absurd rfl e, hT.chn⟩
/-- A block of the group's is made (no phase is under way). -/
def grouped (σ : Ph) (b : Nat) (o : Obj) : Ph := { freeze σ b o with SW := fun x => σ.SW x ∨ x = b }
theorem ms_alloc (hr : g.status = .running) (ht : σ.tag = .idle) (hFl : ∀ b, σ.F b → b < w.heap.size) (h : ∀ w₁, RF σ.F w w₁ → ∃ g' w' o es, stepG P true g w₁ = .go g' w' es ∧ w'.heap = w₁.heap.push o ∧ w'.tape = w₁.tape ∧ w'.os = w₁.os ∧ w'.output = w₁.output ∧ (∀ e ∈ es, EvM σ w₁.heap.size e) ∧ MS P ty z z' Post (grouped σ w₁.heap.size o) g' w') : MS P ty z z' Post σ g w := by
  refine ms_node hr (by rw [ht]; simp) fun w₁ r₁ gs sl t D hI hg => .inl ?_
  obtain ⟨Ow, ⟨st, sm, hW⟩, hT⟩ := hI
  obtain ⟨g', w', o, es, hgo, hpush, _, _, _, hev, hms⟩ := h w₁ r₁
  have hsz' : w'.heap.size = w₁.heap.size + 1 := by rw [hpush]; simp
  have old : ∀ b, b < w₁.heap.size → w'.heap[b]? = w₁.heap[b]? := fun b hb => by rw [hpush, Array.getElem?_push_lt hb, Array.getElem?_eq_getElem hb]
  have hnF : ¬ σ.F w₁.heap.size := fun x => by have := hFl _ x; rw [r₁.sizeEq hFl] at this; omega
  have hev' : ∀ e ∈ es, EvM σ w'.heap.size e := fun e he => by
    rcases hev e he with ⟨a, wr, sy, e1, e2, e3⟩ | ⟨r, wr, sy, e1, e2, e3⟩ | e1
    · exact .inl ⟨a, wr, sy, e1, by omega, e3⟩
    · exact .inr (.inl ⟨r, wr, sy, e1, by omega, e3⟩)
    · exact .inr (.inr e1)
  have hFb : ∀ b, σ.F b → b < w₁.heap.size := fun b hb => by rw [r₁.sizeEq hFl]; exact hFl b hb
  obtain ⟨gs', ops, h1, ⟨Ow2, ⟨st2, sm2, hW2⟩, hT2⟩, h3, hsz⟩ := go_inv (sl := sl) (tag' := σ.tag) (d' := σ.d0) (vb' := σ.vb) (st' := st) (sm' := sm) hW hT hg hgo (fun b hb _ _ => old b hb) (fun b hb => old b (hFb b (hW.layF b hb))) (fun e => absurd ht e) hW.mode Iff.rfl hW.vb (by omega) (ok0_evM hT hev') (fun e he => low_evM (hev' e he)) (fun e he => norel_evM (hev' e he)) (deaf_evM hev' _)
  -- nobody has touched it
  have hrunT := runT_crowd_go (sl := sl) (i := 0) hg (show stepG P (0 == 0) g w₁ = _ by simpa using hgo)
  have hops : ops = MemOp.ofEvents 0 g.frame.fn g.frame.place es := by rw [h1] at hrunT; exact (Prod.mk.inj hrunT).2
  have hlow : ∀ op ∈ t ++ ops, op.act.low w₁.heap.size := seen_app hT.low fun op hop => by
    rw [hops] at hop
    obtain ⟨e, he, rfl⟩ := Go.Conc.mem_ofEvents hop
    exact low_evM (hev e he)
  have hnew : w'.heap[w₁.heap.size]? = some o := by rw [hpush]; simp
  refine ⟨_, _, h1, hms w' (.refl _ _) gs' sl _ D ⟨Ow2, ⟨st2, sm2, ?_⟩, ?_⟩ h3⟩
  · exact { hW2 with
      fch := fun i i0 hi => .inl (hW2.fch i i0 hi)
      fq := fun e => absurd ht e
      fw := fun e => absurd ht e
      klay := fun i x hx => freeze_lay (hW2.klay i x hx)
      layF := fun x hx => (lay_freeze hx).elim .inr fun h => .inl (hW2.layF x h)
      layat := fun x o' hx => by
        by_cases e : x = w₁.heap.size
        · subst e
          simp only [grouped, freeze, upd_same, Option.some.injEq] at hx
          subst hx
          exact hnew
        · simp only [grouped, freeze] at hx
          rw [upd_ne σ.lay _ e] at hx
          exact hW2.layat x o' hx
      layq := fun e => absurd ht e
      laych := fun i x i0 hi hx => (lay_freeze hx).elim (fun e e' => hnF (by rw [← e, e']; exact hW2.fch i i0 hi)) fun h => hW2.laych i x i0 hi h }
  · exact { hT2 with
      ct := ct_shun hT2.ct (fun l ⟨a, e, hs⟩ => ⟨a, e, .inl hs⟩) fun op hop x hx ⟨a, e, hs⟩ => by
        rcases hs with hs | hs
        · exact ⟨a, e, hs⟩
        · have := touch_low (hlow op hop) hx e
          omega
      swF := fun b hb => hb.elim (fun h => .inl (hT2.swF b h)) .inr
      swW := fun e => absurd ht e
      apart := fun k b hk hb => hb.elim (hT2.apart k b hk) fun e => hnF (by rw [← e]; exact hT2.layF b (hT2.klay k b hk))
      layF := fun x hx => (lay_freeze hx).elim .inr fun h => .inl (hT2.layF x h)
      klay := fun i x hx => freeze_lay (hT2.klay i x hx)
      chF := fun i i0 hi => .inl (hT2.chF i i0 hi)
      ow := ⟨hT2.ow.lt, hT2.ow.idx, fun i x hx => .inl (hT2.ow.F i x hx), fun i x hx hl => (lay_freeze hl).elim (fun e => hnF (by rw [← e]; exact hT2.ow.F i x hx)) (hT2.ow.lay i x hx), fun i x hx hs => hs.elim (hT2.ow.sw i x hx) fun e => hnF (by rw [← e]; exact hT2.ow.F i x hx), hT2.ow.ch, fun e => absurd ht e, hT2.ow.wne, hT2.ow.inj, fun ha x hx => .inl (hT2.ow.wide ha x hx)⟩
      swn := fun b hb => hb.elim (hT2.swn b) fun e => by omega
      layn := fun x hx => (lay_freeze hx).elim (fun e => by omega) (hT2.layn x)
      qwn := fun e => absurd ht e }
/-- ████ A PHASE BEGINS. ████ -/
def begun1 (σ : Ph) (Wg q : Nat) : Ph := { σ with F := fun x => σ.F x ∨ x = q, lay := upd σ.lay Wg none, tag := .opn false, Wg := Wg, quit := q, closed := false, vb := 0 }
theorem ms_begin {Wg q : Nat} (ht : σ.tag = .idle) (hlay : σ.lay Wg = some (wgBlock ty 0 0)) (hSW : σ.SW Wg) (hq : ¬ σ.F q) (hqw : w.heap[q]? = some (.chan 0 #[] false 0 0 false)) (h : MS P ty z z' Post (begun1 σ Wg q) g w) : MS P ty z z' Post σ g w := by
  intro w₁ r gs sl t D hI hg
  have hne : ∀ x, σ.F x → x ≠ q := fun x hx e => hq (e ▸ hx)
  refine h w₁ (RF.grow (fun _ h => .inl h) (fun x o' hx hnx ho => ?_) r) gs sl t D ?_ hg
  · rcases hx with hx | rfl
    · exact absurd hx hnx
    · rw [hqw] at ho; cases ho; rfl
  · obtain ⟨Ow, ⟨st, sm, hW⟩, hT⟩ := hI
    have hF0 := hW.none ht
    have hm : ModeD gs.size D .idle st sm := by rw [← ht]; exact hW.mode
    have hA : AllD gs.size D := by
      cases hm with
      | idle hA => exact hA
      | reg hx _ _ _ => rcases hx with hx | hx <;> cases hx
      | last L hx _ _ _ _ => rcases hx with hx | hx <;> cases hx
    have hV : Vd gs.size D = 0 := by
      have := Go.ConcN.sumTo_le (f := fun i => cntD (D i)) (c := 0) (j := gs.size) fun i hi => by simp only [cntD, hA i hi]; simp
      simp only [Vd]; omega
    have hWF : σ.F Wg := hT.swF Wg hSW
    have hl : ∀ x, ((begun1 σ Wg q).lay x).isSome = true → x ≠ Wg ∧ (σ.lay x).isSome = true := fun x hx => by
      by_cases e : x = Wg
      · subst e; simp [begun1, upd_same] at hx
      · simp only [begun1] at hx
        rw [upd_ne σ.lay _ e] at hx
        exact ⟨e, hx⟩
    have hl' : ∀ x, x ≠ Wg → (σ.lay x).isSome = true → ((begun1 σ Wg q).lay x).isSome = true := fun x e hx => by
      simp only [begun1]; rwa [upd_ne σ.lay _ e]
    have hKW : ∀ i x, σ.K i x → x ≠ Wg := fun i x hx e => hT.apart i x hx (e ▸ hSW)
    have hwg : WgAt ty Wg w₁ 0 0 := hW.layat Wg _ hlay
    have none : ∀ i, σ.first ≤ i → i < gs.size → False := fun i i0 hi => by omega
    have hql : q < w₁.heap.size := (Array.getElem?_eq_some_iff.1 ((r.out q hq).trans hqw)).1
    refine ⟨Ow, ⟨0, 0, hW.pos, hW.le, hW.zero, fun i i0 hi => ?_, hW.old, fun i i0 hi => (none i i0 hi).elim, fun _ => (r.out q hq).trans hqw, fun _ => hwg, .opn (fun i hi => .inr (hA i hi)) (by rw [hV]; simp), by rw [hV]; exact Nat.zero_le _, fun _ i i0 hi => (none i i0 hi).elim, fun e => by simp [begun1] at e, hW.room, hW.size,
      fun i i0 hi => (none i i0 hi).elim, fun _ => .inr rfl, fun _ => .inl hWF, fun i _ i0 hi => (none i i0 hi).elim, fun i i0 hi => (none i i0 hi).elim, fun i i0 hi => (none i i0 hi).elim, fun _ e => hne Wg hWF e.symm, fun i x hx => hl' x (hKW i x hx) (hW.klay i x hx), fun x hx => .inl (hW.layF x (hl x hx).2), fun x o' hx => ?_, fun _ x hx => ⟨hne x (hW.layF x (hl x hx).2), (hl x hx).1⟩, fun i _ i0 hi => (none i i0 hi).elim⟩,
      hT.ct, hT.low, hT.d0, hT.dw, hT.nrel, hT.handed, fun i i0 hi => (none i i0 hi).elim, fun x hx => .inl (hT.swF x hx), fun _ => hSW, hT.apart, fun x hx => .inl (hT.layF x (hl x hx).2), fun i x hx => hl' x (hKW i x hx) (hT.klay i x hx), fun i i0 hi => .inl (hT.chF i i0 hi), hT.pos, ⟨hT.ow.lt, hT.ow.idx, fun i x hx => .inl (hT.ow.F i x hx), fun i x hx hx2 => hT.ow.lay i x hx (hl x hx2).2, hT.ow.sw, hT.ow.ch, fun _ i x hx => hne x (hT.ow.F i x hx), fun i x hx e => hT.ow.sw i x hx (by rw [e]; exact hSW), hT.ow.inj, fun ha x hx => .inl (hT.ow.wide ha x hx)⟩, hT.swn, fun x hx => hT.layn x (hl x hx).2, fun _ => ⟨hql, hT.swn Wg hSW⟩, hT.chn⟩
    · obtain ⟨y, hy, hs⟩ := hW.sit i i0 hi
      exact ⟨y, hy, hs.old (hA i hi)⟩
    · by_cases e : x = Wg
      · subst e; simp [begun1, upd_same] at hx
      · simp only [begun1] at hx
        rw [upd_ne σ.lay _ e] at hx
        exact hW.layat x o' hx
/-- ████ THE RETURN. ████ -/
theorem ms_end (hr : g.status = .running) (ht : σ.tag = .idle) (hd0 : σ.d0 = 0) (h : ∀ w₁, RF σ.F w w₁ → (∀ b o, σ.lay b = some o → w₁.heap[b]? = some o) → ∃ v es, stepG P true g w₁ = .ended (.done v) w₁ es ∧ (∀ e ∈ es, EvM σ w₁.heap.size e) ∧ Post v w₁) : MS P ty z z' Post σ g w := by
  refine ms_node hr (by rw [ht]; simp) fun w₁ r₁ gs sl t D hI hg => .inr ?_
  obtain ⟨Ow, ⟨st, sm, hW⟩, hT⟩ := hI
  obtain ⟨v, es, hend, hev, hpost⟩ := h w₁ r₁ hW.layat
  have hm : ModeD gs.size D .idle st sm := by rw [← ht]; exact hW.mode
  have hA : AllD gs.size D := by
    cases hm with
    | idle hA => exact hA
    | reg hx _ _ _ => rcases hx with hx | hx <;> cases hx
    | last L hx _ _ _ _ => rcases hx with hx | hx <;> cases hx
  have hF0 := hW.none ht
  have hT' := hT.step0 (fn := g.frame.fn) (pos := g.frame.place) (es := es) (d' := 0) (Nat.le_refl _) (ok0_evM hT hev) (fun e he => low_evM (hev e he)) (fun e he => norel_evM (hev e he)) (by rw [deaf_evM hev]; exact hd0)
  have hlt : 0 < gs.size := (Array.getElem?_eq_some_iff.1 hg).1
  have quits : ∀ i x, 0 < i → gs[i]? = some x → QuitsD P (D i).fuel (D i).deaf x := fun i x i0 hx => by
    have hi := (Array.getElem?_eq_some_iff.1 hx).1
    obtain ⟨y, hy, hs⟩ := hW.sit i i0 hi
    rw [hx] at hy
    cases hy
    have h1 := hA i hi
    generalize (D i).stage = s at hs h1
    subst h1
    cases hs with
    | quit h => exact h
  refine ⟨_, _, _, runT_many_ended (sl := sl) (i := 0) hg (by simpa using hend), fun w₀ sl₀ => ⟨v, rfl, hpost, hT'.ct.nr, ?_, ⟨fun x hx => ?_, rfl⟩, fun i x hx hi => ?_⟩⟩
  · intro i k hk hk0 hc
    have hkl : k < gs.size := by
      obtain ⟨op, ho, hog⟩ := Option.map_eq_some_iff.1 hk
      have := hT'.ct.gs i op ho
      omega
    exact hT'.handed k (by omega) (by show k < σ.first; omega) i hk hc
  · obtain ⟨j, hj⟩ := List.mem_iff_getElem?.1 hx
    rw [List.getElem?_drop] at hj
    exact ⟨_, (quits (1 + j) x (by omega) (by simpa [crowd] using hj)).leaves⟩
  · have hq := quits i x (by omega) hx
    have hil := (Array.getElem?_eq_some_iff.1 hx).1
    refine ⟨(D i).fuel, ?_⟩
    have e : (t ++ MemOp.ofEvents 0 g.frame.fn g.frame.place es).deaf i (t ++ MemOp.ofEvents 0 g.frame.fn g.frame.place es).size = (D i).deaf := hT'.dw i (by omega) hil
    rw [e]
    exact hq.hears _
/-- ████ FROM THE ENTRY: goroutine 0 alone. ████ -/
theorem ms_run {F : Nat → Prop} {lay : Nat → Option Obj} (hlF : ∀ b, (lay b).isSome = true → F b) (hla : ∀ b o, lay b = some o → w.heap[b]? = some o) {room : Nat} (hroom : 1 + room < 2147483647) {z z' : Value} {junk : Nat} (h : MS P ty z z' Post ⟨F, lay, fun _ => False, fun _ _ => False, fun _ => 0, fun _ => [], 1, 0, junk, junk, false, .idle, 0, 0, room, false⟩ g w) :
    Ends P Post (crowd #[g] w none) #[] := by
  have hz : ∀ N, sumTo N (fun i => cntD ((fun _ => (⟨1, 0, 0⟩ : WD)) i)) = 0 := fun N => by
    have := Go.ConcN.sumTo_le (f := fun i => cntD ((fun _ => (⟨1, 0, 0⟩ : WD)) i)) (c := 0) (j := N) fun i _ => by simp [cntD]
    omega
  refine h w (.refl _ _) #[g] none #[] (fun _ => ⟨1, 0, 0⟩) ⟨fun _ _ => False, ⟨0, 0, ?_⟩, ?_⟩ rfl
  · refine ⟨by simp, by simp, rfl, fun i i0 hi => ?_, fun _ _ _ => rfl, fun i i0 hi => ?_, fun e => absurd rfl e, fun e => absurd rfl e, .idle fun _ _ => rfl, by simp only [Vd]; rw [hz]; exact Nat.le_refl _, fun _ i i0 hi => ?_, fun _ => rfl, hroom, rfl, fun i i0 hi => ?_, fun e => absurd rfl e, fun e => absurd rfl e, fun i _ i0 hi => ?_, fun i i0 hi => ?_, fun i i0 hi => ?_, fun e => absurd rfl e, fun _ _ h => h.elim, hlF, hla, fun e => absurd rfl e, fun i _ i0 hi => ?_⟩
    all_goals
      simp at hi
      first | (have i0' : 1 ≤ i := i0; omega) | omega
  · refine ⟨⟨fun i op x hi => by simp at hi, fun _ _ _ _ ⟨_, _, h⟩ => h.elim, fun _ _ _ _ _ i a ha => by simp [touchAt, Trace.act?] at ha, fun _ _ _ i a ha => by simp [touchAt, Trace.act?] at ha, fun _ _ _ i a ha => by simp [touchAt, Trace.act?] at ha, fun said => (by rintro ⟨i, j, _, ⟨a, b, ha, _⟩, _⟩; simp [Trace.act?] at ha), fun i op hi => by simp at hi⟩, by simp, rfl, fun i i0 hi => by simp at hi; omega, by simp, fun i i0 hi => by have : i < 1 := hi; omega, fun i i0 hi => by have : 1 ≤ i := i0; simp at hi; omega, fun _ h => h.elim, fun e => absurd rfl e, fun _ _ h => h.elim, hlF, fun _ _ h => h.elim, fun i i0 hi => by simp at hi; omega, by simp, ⟨fun _ _ h => h.elim, fun _ _ h => h.elim, fun _ _ h => h.elim, fun _ _ h => h.elim, fun _ _ h => h.elim, fun _ _ _ h => h.elim, fun _ _ _ h => h.elim, fun _ _ h => h.elim, fun _ _ _ h => h.elim, fun h => by cases h⟩, fun _ h => h.elim, fun b hb => by obtain ⟨o, ho⟩ := Option.isSome_iff_exists.1 hb; exact (Array.getElem?_eq_some_iff.1 (hla b o ho)).1, fun e => absurd rfl e, fun i i0 hi => by simp at hi; omega⟩
end
end Go.Proofs.Ytmllcfkgkkbkpaa
/-
  THE STARTER's VIEW: a world in which what others turn is poisoned; a judgement for frames that are walked by hand over it.
-/
namespace Go.Proofs.Ytmllcfkgkkbkpaa
open Go Go.Conc
open Go.ConcN (upd upd_ne upd_same WgLive)
open Go.ConcR (KK wgBlock WgAt stA smA rd wr mk DC0)

def MV (P : Program) (ty : TypeId) (z z' : Value) (Post : Value → World → Prop) (σ : Ph) (g : Goroutine) (pw : World) : Prop :=
  σ.tag ≠ .blk → ∀ w, Poi P σ.F (pw.re w.tape w.drawn) w → MS P ty z z' Post σ g w
def killW (P : Program) (w : World) (b : Nat) : World := { w with heap := w.heap.setIfInBounds b (poison P) }

section
variable {P : Program} {ty : TypeId} {z z' : Value} {Post : Value → World → Prop} {σ : Ph} {g g' : Goroutine} {pw : World} {pt : TypeId → Bool} {S : FuncId → Bool} {cv : TypeId → TypeId → Bool}
theorem re_poi {pw w : World} {F : Nat → Prop} (h : Poi P F pw w) : pw.re w.tape w.drawn = pw := by rw [← h.tape, ← h.drawn]; rfl
theorem MV.re {t : Nat → Question → Nat} {d : Nat} (h : MV P ty z z' Post σ g (pw.re t d)) : MV P ty z z' Post σ g pw := h
theorem MV.unre {t : Nat → Question → Nat} {d : Nat} (h : MV P ty z z' Post σ g pw) : MV P ty z z' Post σ g (pw.re t d) := h
/-- A move of control. -/
theorem mv_ctl (hr : g.status = .running) (h : ∀ w, stepG P true g w = .go g' w) (hn : MV P ty z z' Post σ g' pw) : MV P ty z z' Post σ g pw := fun hb w hp =>
  ms_own hr hb fun w₁ r₁ _ _ => ⟨g', w₁, #[], h w₁, fun _ _ => rfl, Nat.le_refl _, by simp, hn hb w₁ (hp.rf r₁)⟩
/-- A step that a semantic term decides which hangs on nothing of F. -/
theorem mv_sem {α : Type} {s : Sem α} {Q : α → Prop} (hs : Ins P σ.F s Q) (hr : g.status = .running) (nxt : α → Option Goroutine)
    (hgo : ∀ w x w' es, s.runT P w #[] = (.ok x w', es) → ∀ g', nxt x = some g' → ∃ es', stepG P true g w = .go g' w' es' ∧ ∀ e ∈ es', e ∈ es)
    (h : ∀ t d, ∃ x pw', s.run P (pw.re t d) = .ok x pw' ∧ ∃ g', nxt x = some g' ∧ MV P ty z z' Post σ g' pw') : MV P ty z z' Post σ g pw := fun hb w hp => by
  refine ms_own hr hb fun w₁ r₁ _ _ => ?_
  have hp1 : Poi P σ.F (pw.re w₁.tape w₁.drawn) w₁ := hp.rf r₁
  obtain ⟨x, pw', hrun, g', hn, hmv⟩ := h w₁.tape w₁.drawn
  obtain ⟨_, w', new, hT, hev, hp', hgt⟩ := hs.ok _ _ #[] x pw' hp1 hrun
  obtain ⟨es', h1, h2⟩ := hgo w₁ x w' _ hT g' hn
  refine ⟨g', w', es', h1, hgt.same, hgt.size, fun e he => evM_of_evOk (hev e (by simpa using h2 e he)), hmv hb w' ?_⟩
  rw [re_poi hp']
  exact hp'
/-- A piece of calm code, by its lone walk. -/
theorem mv_piece (C : CalmOn pt S cv P) (hG : ∀ b, σ.F b → P.globals.size ≤ b) {c : Code} (hc : calmCode pt S cv c = true) (hr : noRet c = true) {R : (Nat → Question → Nat) → Nat → Act → World → Prop} {a : Act} (h : ∀ t d, c.wp P (fun e a' w' => e = .normal ∧ R t d a' w') (a.wd []) (pw.re t d)) {b : Frame} {k : List Item} {cs : List Frame} (hk : b.kind ≠ .early)
    (hn : ∀ a' pw', OnTape R a' pw' → MV P ty z z' Post σ (G (b.atR (a'.wd a.defers) k) cs) pw') : MV P ty z z' Post σ (G (b.atR a (.code c :: k)) cs) pw := fun hb w hp => by
  have := piece_T (b := b) (ds := a.defers) (k := k) (cs := cs) (main := true) C hG hc hr hp (R := R) (fun t d => h t d) hk
  refine ms_goesT hb this fun g' w' hs => ?_
  obtain ⟨a', pw', hf, hp', rfl⟩ := hs w' (RF.refl _ _)
  exact hn a' pw' hf hb w' hp'
theorem noRet_true : ∀ c : Code, noRet c = true
  | .seq a b => by simp [noRet, noRet_true a, noRet_true b]
  | .cond _ a b => by simp [noRet, noRet_true a, noRet_true b]
  | .block _ c => by simp [noRet, noRet_true c]
  | .loop c => by simp [noRet, noRet_true c]
  | .scope c => by simp [noRet, noRet_true c]
  | .skip | .label _ | .ret | .exit _ | .region _ _ _ | .goto _ | .refuse _ | .rangeFunc _ _ _ _ => rfl
theorem mv_pieceE (C : CalmOn pt S cv P) (hG : ∀ b, σ.F b → P.globals.size ≤ b) {c : Code} (hc : calmCode pt S cv c = true) {R : (Nat → Question → Nat) → Nat → Bool → Act → World → Prop} {a : Act} (h : ∀ t d, c.wp P (fun e a' w' => ∃ r, e = exitOf r ∧ R t d r a' w') (a.wd []) (pw.re t d)) {b : Frame} {k : List Item} {cs : List Frame} (hk : b.kind ≠ .early)
    (hn : ∀ a' pw', OnTapeE R false a' pw' → MV P ty z z' Post σ (G (b.atR (a'.wd a.defers) k) cs) pw') (hr : ∀ a' pw', OnTapeE R true a' pw' → ∀ p, MV P ty z z' Post σ (G (b.atR (a'.wd a.defers) (.code .ret :: p)) cs) pw') : MV P ty z z' Post σ (G (b.atR a (.code c :: k)) cs) pw := fun hb w hp => by
  have := pieceE_T (b := b) (ds := a.defers) (k := k) (cs := cs) (main := true) C hG hc (noRet_true c) hp (R := R) (fun t d => h t d) hk
  refine ms_goesT hb this fun g' w' hs => ?_
  obtain ⟨r, a', pw', hf, hp', hg⟩ := hs w' (RF.refl _ _)
  rcases hg with ⟨rfl, rfl⟩ | ⟨rfl, p, rfl⟩
  · exact hn a' pw' hf hb w' hp'
  · exact hr a' pw' hf p hb w' hp'
theorem mv_calls (C : CalmOn pt S cv P) (hG : ∀ b, σ.F b → P.globals.size ≤ b) {f : FuncId} (hS : S f = true) {args : Array Value} {R : (Nat → Question → Nat) → Nat → Value → World → Prop} (h : ∀ t d, Calls P f args (pw.re t d) (fun e w' => ∃ v, e = .returned v ∧ R t d v w')) {base : Frame} {cs : List Frame}
    (hn : ∀ v pw', OnTapeV R v pw' → MV P ty z z' Post σ (G (base.finish v) cs) pw') : MV P ty z z' Post σ (G (Frame.enter P f args .normal) (base :: cs)) pw := fun hb w hp => by
  have := calls_T (base := base) (cs := cs) (main := true) C hG hS hp (R := R) (fun t d => h t d)
  refine ms_goesT hb this fun g' w' hs => ?_
  obtain ⟨v, pw', hf, hp', rfl⟩ := hs w' (RF.refl _ _)
  exact hn v pw' hf hb w' hp'
/-- A block stands still from now on. -/
theorem kill_ne {w : World} {b x : Nat} (h : x ≠ b) : (killW P w b).heap[x]? = w.heap[x]? := by
  simp only [killW]
  rw [Array.getElem?_setIfInBounds_ne (fun e => h e.symm)]
theorem poi_kill {F : Nat → Prop} {pw w : World} {b : Nat} {o : Obj} (h : Poi P F pw w) (hF : ¬ F b) (hb : w.heap[b]? = some o) (ht : objTame o = true) : Poi P (fun x => F x ∨ x = b) (killW P pw b) w := by
  have hlt := (Array.getElem?_eq_some_iff.1 hb).1
  refine ⟨by simp only [killW, Array.size_setIfInBounds]; exact h.size, h.tape, h.drawn, h.os, h.output, fun x hx => ?_, fun x hx => ?_, fun x hx => ?_, fun x o' hx ho => ?_, fun x o' hx ho => h.live x o' (fun y => hx (.inl y)) ho⟩
  · rw [kill_ne fun e => hx (.inr e)]
    exact h.out x fun y => hx (.inl y)
  · rcases hx with hx | rfl
    · exact h.low x hx
    · exact hlt
  · by_cases e : x = b
    · subst e
      simp only [killW]
      rw [Array.getElem?_setIfInBounds_self_of_lt (by rw [h.size]; exact hlt)]
    · rw [kill_ne e]
      exact h.dead x (hx.resolve_right e)
  · rcases hx with hx | rfl
    · exact h.real x o' hx ho
    · rw [hb] at ho; cases ho; exact ht
theorem kill_re {w : World} {b : Nat} {t : Nat → Question → Nat} {d : Nat} : killW P (w.re t d) b = (killW P w b).re t d := rfl
theorem mv_freeze {b : Nat} {o : Obj} (hF : ¬ σ.F b) (hb : pw.heap[b]? = some o) (ht : objTame o = true) (h : MV P ty z z' Post (freeze σ b o) g (killW P pw b)) : MV P ty z z' Post σ g pw := fun hbk w hp => by
  have hw : w.heap[b]? = some o := (hp.out b hF).symm.trans hb
  exact ms_freeze hF hw ht (h hbk w (poi_kill hp hF hw ht))
theorem mv_begin {Wg q : Nat} (ht : σ.tag = .idle) (hlay : σ.lay Wg = some (wgBlock ty 0 0)) (hSW : σ.SW Wg) (hq : ¬ σ.F q) (hqw : pw.heap[q]? = some (.chan 0 #[] false 0 0 false)) (h : MV P ty z z' Post (begun1 σ Wg q) g (killW P pw q)) : MV P ty z z' Post σ g pw := fun _ w hp => by
  have hw : w.heap[q]? = some (.chan 0 #[] false 0 0 false) := (hp.out q hq).symm.trans hqw
  exact ms_begin ht hlay hSW hq hw (h (by simp [begun1]) w (poi_kill hp hq hw rfl))
theorem mv_idle (ht : σ.tag = .fin) (hn : σ.n = 0) (h : MV P ty z z' Post { σ with tag := .idle } g pw) : MV P ty z z' Post σ g pw := fun _ w hp => ms_idle ht hn (h (by simp) w hp)

/-! ### the judgement -/
variable (P ty z z' Post) in
def AfterM (b : Frame) (k : List Item) (cs : List Frame) : Exit → Act → Ph → World → Prop
  | .normal, a, σ, pw => MV P ty z z' Post σ (G (b.atR a k) cs) pw
  | .exit id, a, σ, pw => match exitTo id k with
    | some k' => MV P ty z z' Post σ (G (b.atR a k') cs) pw
    | none => ∀ k', exitTo id k' = none → MV P ty z z' Post σ (G (b.atR a (.code (.exit id) :: k')) cs) pw
  | .ret, a, σ, pw => ∀ k', MV P ty z z' Post σ (G (b.atR a (.code .ret :: k')) cs) pw
  | _, _, _, _ => False
theorem AfterM.push {b : Frame} {x : Item} {k : List Item} {cs : List Frame} {e : Exit} {a : Act} (hx : ∀ id, x ≠ .inBlock id) (he : e ≠ .normal) (h : AfterM P ty z z' Post b k cs e a σ pw) : AfterM P ty z z' Post b (x :: k) cs e a σ pw := by
  cases e with
  | normal => exact absurd rfl he
  | exit id =>
    dsimp only [AfterM] at *
    have : exitTo id (x :: k) = exitTo id k := by
      cases x <;> first | rfl | exact absurd rfl (hx _)
    rw [this]
    exact h
  | ret => exact h
  | goto l => exact h
  | panic ch => exact h
  | outgrown => exact h
variable (P ty z z' Post) in
def wpM (fn : Frame → Prop) (c : Code) (Q : Exit → Act → Ph → World → Prop) (a : Act) (σ : Ph) (pw : World) : Prop :=
  ∀ (b : Frame) (k : List Item) (cs : List Frame), fn b → b.kind ≠ .early → (∀ e a' σ' pw', Q e a' σ' pw' → AfterM P ty z z' Post b k cs e a' σ' pw') → MV P ty z z' Post σ (G (b.atR a (.code c :: k)) cs) pw
def thenM (Q' : Act → Ph → World → Prop) (Q : Exit → Act → Ph → World → Prop) : Exit → Act → Ph → World → Prop
  | .normal, a, σ, pw => Q' a σ pw
  | e, a, σ, pw => Q e a σ pw
def inBlockM (id : Nat) (Q : Exit → Act → Ph → World → Prop) : Exit → Act → Ph → World → Prop
  | .exit id', a, σ, pw => if id' = id then Q .normal a σ pw else Q (.exit id') a σ pw
  | e, a, σ, pw => Q e a σ pw
variable {fn : Frame → Prop} {Q : Exit → Act → Ph → World → Prop} {a : Act}
theorem wpM_skip (h : Q .normal a σ pw) : wpM P ty z z' Post fn .skip Q a σ pw := fun b k cs _ _ hc =>
  mv_ctl rfl (fun w => by simp [G, stepG, stepG.exec, Frame.atR]) (hc _ _ _ _ h)
theorem wpM_ret (h : Q .ret a σ pw) : wpM P ty z z' Post fn .ret Q a σ pw := fun _ k _ _ _ hc => hc _ _ _ _ h k
theorem wpM_exit {id : Nat} (h : Q (.exit id) a σ pw) : wpM P ty z z' Post fn (.exit id) Q a σ pw := by
  intro b k cs _ _ hc
  have := hc _ _ _ _ h
  dsimp only [AfterM] at this
  cases he : exitTo id k with
  | some k' =>
    rw [he] at this
    exact mv_ctl rfl (fun w => by simp [G, stepG, stepG.exec, Frame.atR, he]) this
  | none =>
    rw [he] at this
    exact this k he
theorem wpM_seq {x y : Code} (h : wpM P ty z z' Post fn x (thenM (fun a' σ' pw' => wpM P ty z z' Post fn y Q a' σ' pw') Q) a σ pw) : wpM P ty z z' Post fn (.seq x y) Q a σ pw := by
  intro b k cs hb hk hc
  refine mv_ctl rfl (fun w => by simp [G, stepG, stepG.exec, Frame.atR]) (h b (.code y :: k) cs hb hk fun e a' σ' pw' q => ?_)
  cases e with
  | normal => exact q b k cs hb hk hc
  | exit id => exact (hc _ _ _ _ q).push (by simp) (by simp)
  | ret => exact (hc _ _ _ _ q).push (x := .code y) (by simp) (by simp)
  | goto l => exact hc _ _ _ _ q
  | panic ch => exact hc _ _ _ _ q
  | outgrown => exact hc _ _ _ _ q
theorem wpM_cond {c : Operand} {x y : Code} {t : Bool} (hc : a.eval c = .bool t) (h : wpM P ty z z' Post fn (if t then x else y) Q a σ pw) : wpM P ty z z' Post fn (.cond c x y) Q a σ pw := by
  intro b k cs hb hk hq
  refine mv_ctl rfl (fun w => ?_) (h b k cs hb hk hq)
  have e := congrFun (Frame.eval_atR b a (.code (.cond c x y) :: k)) c
  simp only [Frame.atR] at e
  simp [G, stepG, stepG.exec, Frame.atR, e, hc]
theorem wpM_block {id : Nat} {c : Code} (h : wpM P ty z z' Post fn c (inBlockM id Q) a σ pw) : wpM P ty z z' Post fn (.block id c) Q a σ pw := by
  intro b k cs hb hk hc
  refine mv_ctl rfl (fun w => by simp [G, stepG, stepG.exec, Frame.atR]) (h b (.inBlock id :: k) cs hb hk fun e a' σ' pw' q => ?_)
  cases e with
  | normal => exact mv_ctl rfl (fun w => by simp [G, stepG, stepG.exec, Frame.atR]) (hc _ _ _ _ q)
  | exit id' =>
    by_cases hid : id' = id
    · simp only [inBlockM, hid, if_true] at q
      dsimp only [AfterM]
      simp only [exitTo, hid, beq_self_eq_true, if_true]
      exact hc _ _ _ _ q
    · simp only [inBlockM, hid, if_false] at q
      have := hc _ _ _ _ q
      dsimp only [AfterM] at *
      have e : (id == id') = false := by simp; exact fun h => hid h.symm
      simp only [exitTo, e]
      exact this
  | ret => exact hc _ _ _ _ q
  | goto l => exact hc _ _ _ _ q
  | panic ch => exact hc _ _ _ _ q
  | outgrown => exact hc _ _ _ _ q
theorem wpM_loop {c : Code} (I : Act → Ph → World → Prop) (μ : Act → Ph → World → Nat) (h₀ : I a σ pw) (round : ∀ a σ pw, I a σ pw → wpM P ty z z' Post fn c (thenM (fun a' σ' pw' => I a' σ' pw' ∧ μ a' σ' pw' < μ a σ pw) Q) a σ pw) : wpM P ty z z' Post fn (.loop c) Q a σ pw := by
  intro b k cs hb hk hc
  have key : ∀ N a σ pw, μ a σ pw ≤ N → I a σ pw → MV P ty z z' Post σ (G (b.atR a (.code c :: .inLoop c :: k)) cs) pw := by
    intro N
    induction N with
    | zero =>
      intro a σ pw hμ hI
      refine round a σ pw hI b (.inLoop c :: k) cs hb hk fun e a' σ' pw' q => ?_
      cases e with
      | normal => exact absurd q.2 (by omega)
      | exit id => exact (hc _ _ _ _ q).push (by simp) (by simp)
      | ret => exact (hc _ _ _ _ q).push (x := .inLoop c) (by simp) (by simp)
      | goto l => exact hc _ _ _ _ q
      | panic ch => exact hc _ _ _ _ q
      | outgrown => exact hc _ _ _ _ q
    | succ N ih =>
      intro a σ pw hμ hI
      refine round a σ pw hI b (.inLoop c :: k) cs hb hk fun e a' σ' pw' q => ?_
      cases e with
      | normal => exact mv_ctl rfl (fun w => by simp [G, stepG, stepG.exec, Frame.atR]) (ih a' σ' pw' (by have := q.2; omega) q.1)
      | exit id => exact (hc _ _ _ _ q).push (by simp) (by simp)
      | ret => exact (hc _ _ _ _ q).push (x := .inLoop c) (by simp) (by simp)
      | goto l => exact hc _ _ _ _ q
      | panic ch => exact hc _ _ _ _ q
      | outgrown => exact hc _ _ _ _ q
  exact mv_ctl rfl (fun w => by simp [G, stepG, stepG.exec, Frame.atR]) (key _ a σ pw (Nat.le_refl _) h₀)
/-- A calm piece by its lone walk. -/
theorem wpM_piece (C : CalmOn pt S cv P) (hG : ∀ b, σ.F b → P.globals.size ≤ b) {c : Code} (hc : calmCode pt S cv c = true) (hr : noRet c = true) {R : (Nat → Question → Nat) → Nat → Act → World → Prop} (h : ∀ t d, c.wp P (fun e a' w' => e = .normal ∧ R t d a' w') (a.wd []) (pw.re t d))
    (hn : ∀ a' pw', OnTape R a' pw' → Q .normal (a'.wd a.defers) σ pw') : wpM P ty z z' Post fn c Q a σ pw := fun _ _ _ _ hk hq =>
  mv_piece C hG hc hr h hk fun a' pw' hx => hq _ _ _ _ (hn a' pw' hx)
/-- .. that may return. -/
theorem wpM_calm (C : CalmOn pt S cv P) (hG : ∀ b, σ.F b → P.globals.size ≤ b) {c : Code} (hc : calmCode pt S cv c = true) {R : (Nat → Question → Nat) → Nat → Bool → Act → World → Prop} (h : ∀ t d, c.wp P (fun e a' w' => ∃ r, e = exitOf r ∧ R t d r a' w') (a.wd []) (pw.re t d))
    (hn : ∀ r a' pw', OnTapeE R r a' pw' → Q (exitOf r) (a'.wd a.defers) σ pw') : wpM P ty z z' Post fn c Q a σ pw := fun _ _ _ _ hk hq =>
  mv_pieceE C hG hc h hk (fun a' pw' hx => hq _ _ _ _ (hn false a' pw' hx)) fun a' pw' hx => hq _ _ _ _ (hn true a' pw' hx)
variable (P ty z z' Post) in
/-- The operations of a region that are still to come. -/
def OpsM (fn : Frame → Prop) (ops : Array Oper) (todo : List Nat) (Q : Exit → Act → Ph → World → Prop) (a : Act) (σ : Ph) (pw : World) : Prop :=
  ∀ (b : Frame) (k : List Item) (cs : List Frame), fn b → b.kind ≠ .early → (∀ e a' σ' pw', Q e a' σ' pw' → AfterM P ty z z' Post b k cs e a' σ' pw') → MV P ty z z' Post σ (G (b.atR a (.inRegion ops todo :: k)) cs) pw
theorem wpM_region {id : Nat} {ops : Array Oper} (h : OpsM P ty z z' Post fn ops (List.range ops.size) Q a σ pw) : wpM P ty z z' Post fn (.region id ops false) Q a σ pw := fun b k cs hb hk hc =>
  mv_ctl rfl (fun w => by simp [G, stepG, stepG.exec, Frame.atR]) (h b k cs hb hk hc)
theorem opsM_nil {ops : Array Oper} (h : Q .normal a σ pw) : OpsM P ty z z' Post fn ops [] Q a σ pw := fun b k cs _ _ hc =>
  mv_ctl rfl (fun w => by simp [G, stepG, stepG.exec, Frame.atR]) (hc _ _ _ _ h)
theorem opsM_unwanted {ops : Array Oper} {i : Nat} {rest : List Nat} {o : Oper} (ho : ops[i]? = some o) (hw : Region.wanted o (yielded ops a.tmps) = false) (h : OpsM P ty z z' Post fn ops rest Q (a.put o.dst undef) σ pw) : OpsM P ty z z' Post fn ops (i :: rest) Q a σ pw := by
  intro b k cs hb hk hc
  have hfin : (b.atR a (.inRegion ops (i :: rest) :: k)).finish undef = b.atR (a.put o.dst undef) (.inRegion ops rest :: k) := by rw [Frame.finish_atR, ho]; rfl
  refine mv_ctl rfl (fun w => ?_) (h b k cs hb hk hc)
  rw [← hfin]
  simp [G, stepG, stepG.exec, Frame.atR, ho, hw]
/-- What an operation yields, alone. -/
def uponV (o : Oper) (a : Act) (K : Act → World → Prop) : Result Next → Prop
  | .ok (.value v) w' => K (a.put o.dst v) w'
  | .ok .skip w' => K (a.put o.dst undef) w'
  | _ => False
/-- An operation that a semantic term decides which hangs on nothing of F. -/
theorem opsM_ins {ops : Array Oper} {i : Nat} {rest : List Nat} {o : Oper} {Q' : Next → Prop} (ho : ops[i]? = some o) (hw : Region.wanted o (yielded ops a.tmps) = true) (hnd : ∀ c, o.op ≠ .defer c) (hs : Ins P σ.F (execOp a.eval o) Q')
    (h : ∀ t d, uponV o a (fun a' pw' => OpsM P ty z z' Post fn ops rest Q a' σ pw') ((execOp a.eval o).run P (pw.re t d))) : OpsM P ty z z' Post fn ops (i :: rest) Q a σ pw := by
  intro b k cs hb hk hc
  have hk' : (b.kind == CallKind.early) = false := by simpa using hk
  have hfin : ∀ v, (b.atR a (.inRegion ops (i :: rest) :: k)).finish v = b.atR (a.put o.dst v) (.inRegion ops rest :: k) := fun v => by rw [Frame.finish_atR, ho]; rfl
  refine mv_sem hs rfl (fun nx => match nx with
    | .value v => some (G (b.atR (a.put o.dst v) (.inRegion ops rest :: k)) cs)
    | .skip => some (G (b.atR (a.put o.dst undef) (.inRegion ops rest :: k)) cs)
    | _ => none) (fun w nx w' es hrun g' hn => ?_) fun t d => ?_
  · rw [stepG_operR ho hw hnd]
    rw [Sem.runT_eq, Prod.mk.injEq] at hrun
    obtain ⟨hrun, hev⟩ := hrun
    cases nx <;> simp only [Option.some.injEq] at hn <;> try (cases hn; done)
    all_goals
      subst hn
      refine ⟨seen P b.fn es, ?_, fun e he => mem_seen he⟩
      rw [← hfin]
      simp [stepG.apply, Sem.runT_eq, hrun, hev, hk', GStep.after, G, Frame.atR]
  · have := h t d
    cases hr : (execOp a.eval o).run P (pw.re t d) with
    | halt x w' => rw [hr] at this; exact this.elim
    | ok x w' =>
      rw [hr] at this
      cases x <;> first
        | exact this.elim
        | exact ⟨_, _, rfl, _, rfl, this b k cs hb hk hc⟩
theorem opsM_calm (C : CalmOn pt S cv P) (hG : ∀ b, σ.F b → P.globals.size ≤ b) {ops : Array Oper} {i : Nat} {rest : List Nat} {o : Oper} (ho : ops[i]? = some o) (hw : Region.wanted o (yielded ops a.tmps) = true) (hco : calmOp pt S cv o.op = true)
    (h : ∀ t d, uponV o a (fun a' pw' => OpsM P ty z z' Post fn ops rest Q a' σ pw') ((execOp a.eval o).run P (pw.re t d))) : OpsM P ty z z' Post fn ops (i :: rest) Q a σ pw :=
  opsM_ins ho hw (by intro c e; rw [e] at hco; cases hco) (Ins.execOp C.toCalmIn hG (fun f => rfl) hco) h
/-- A call of a Go function: on to its entry. -/
theorem opsM_enter {ops : Array Oper} {i : Nat} {rest : List Nat} {o : Oper} {f : FuncId} {args : Array Value} (ho : ops[i]? = some o) (hw : Region.wanted o (yielded ops a.tmps) = true) (hnd : ∀ c, o.op ≠ .defer c)
    (hrun : ∀ w, (execOp a.eval o).run P w = .ok (.enter f args) w ∧ (execOp a.eval o).events P w #[] = #[])
    (h : ∀ (base : Frame) (cs : List Frame), (∀ v σ' pw', OpsM P ty z z' Post fn ops rest Q (a.put o.dst v) σ' pw' → MV P ty z z' Post σ' (G (base.finish v) cs) pw') → MV P ty z z' Post σ (G (Frame.enter P f args .normal) (base :: cs)) pw) : OpsM P ty z z' Post fn ops (i :: rest) Q a σ pw := by
  intro b k cs hb hk hc
  have hk' : (b.kind == CallKind.early) = false := by simpa using hk
  have hfin : ∀ v, (b.atR a (.inRegion ops (i :: rest) :: k)).finish v = b.atR (a.put o.dst v) (.inRegion ops rest :: k) := fun v => by rw [Frame.finish_atR, ho]; rfl
  refine mv_ctl (g' := G (Frame.enter P f args .normal) (b.atR a (.inRegion ops (i :: rest) :: k) :: cs)) rfl (fun w => ?_) (h _ _ fun v σ' pw' hx => ?_)
  · rw [stepG_operR ho hw hnd]
    have hs : seen P b.fn #[] = #[] := seen_none P b.fn
    simp [stepG.apply, (hrun w).1, (hrun w).2, hk', GStep.after, G, Frame.atR, hs]
  · rw [hfin]
    exact hx b k cs hb hk hc
end
end Go.Proofs.Ytmllcfkgkkbkpaa
/-
  WHICH FUNCTIONS OF THE PROGRAM ARE CALM.
-/
namespace Go.Proofs.Ytmllcfkgkkbkpaa
open Go Go.Conc
/-- The types whose values are compared. -/
def ptM (t : TypeId) : Bool := [3, 4, 9, 23, 32].contains t
/-- The calm functions. -/
def SM (f : FuncId) : Bool := [10, 11, 12, 13, 15, 18, 19, 20, 21, 28, 27, 16].contains f
def cvM (s d : TypeId) : Bool := (s == 3 && d == 5) || (s == 43 && d == 9) || (s == 35 && d == 35)
theorem calm_many : ((Try.f10.body).map (calmCode ptM SM cvM)) = some true := by kernel_rfl
theorem calm_copyLists : ((Try.f11.body).map (calmCode ptM SM cvM)) = some true := by kernel_rfl
theorem calm_copyInts : ((Try.f12.body).map (calmCode ptM SM cvM)) = some true := by kernel_rfl
theorem calm_SameInts : ((Try.f13.body).map (calmCode ptM SM cvM)) = some true := by kernel_rfl
theorem calm_refMerge : ((Try.f15.body).map (calmCode ptM SM cvM)) = some true := by kernel_rfl
theorem calm_refTurns : ((Try.f18.body).map (calmCode ptM SM cvM)) = some true := by kernel_rfl
theorem calm_StreamI : ((Try.f19.body).map (calmCode ptM SM cvM)) = some true := by kernel_rfl
theorem calm_StreamP : ((Try.f20.body).map (calmCode ptM SM cvM)) = some true := by kernel_rfl
theorem calm_CloneI : ((Try.f21.body).map (calmCode ptM SM cvM)) = some true := by kernel_rfl
theorem calm_CloneP : ((Try.f28.body).map (calmCode ptM SM cvM)) = some true := by kernel_rfl
theorem calm_turn : ((Try.f27.body).map (calmCode ptM SM cvM)) = some true := by kernel_rfl
theorem calm_Show : ((Try.f16.body).map (calmCode ptM SM cvM)) = some true := by kernel_rfl
theorem calm_body {f : FuncId} {fn : Func} (hf : Try.prog.funcs[f]? = some fn) (h : (fn.body).map (calmCode ptM SM cvM) = some true) (hr : ∃ t, fn.results = #[.tmp t]) : ∃ fn c, Try.prog.funcs[f]? = some fn ∧ fn.body = some c ∧ calmCode ptM SM cvM c = true ∧ (fn.results = #[] ∨ ∃ t, fn.results = #[.tmp t]) := by
  cases hb : fn.body with
  | none => rw [hb] at h; cases h
  | some c => exact ⟨fn, c, hf, hb, by rw [hb] at h; exact Option.some.inj h, .inr hr⟩
theorem cvM_conv {s d : TypeId} (hne : s ≠ d) (h : cvM s d = true) : (∃ k k', Try.prog.underlying s = some (.int k) ∧ Try.prog.underlying d = some (.int k')) ∨ (∃ e, Try.prog.underlying s = some (.slice e) ∧ Try.prog.underlying d = some .string ∧ Try.prog.underlying e = some (.int .u8)) := by
  simp only [cvM, Bool.or_eq_true, Bool.and_eq_true, beq_iff_eq] at h
  rcases h with (⟨rfl, rfl⟩ | ⟨rfl, rfl⟩) | ⟨rfl, rfl⟩
  · exact .inl ⟨_, _, Try.underlying3, Try.underlying5⟩
  · exact .inr ⟨_, Try.underlying43, Try.underlying9, Try.underlying5⟩
  · exact absurd rfl hne
theorem infoInt : (Try.prog.info? 3).map (·.size) = some 1 := by kernel_rfl
theorem infoStr : (Try.prog.info? 9).map (·.size) = some 1 := by kernel_rfl
theorem cvM_fld {s : TypeId} {f : Nat} {fields : Array Field} {fd : Field} {i : TypeInfo} (h : cvM s s = true) (h1 : Try.prog.underlying s = some (.struct fields)) (h2 : fields[f]? = some fd) (h3 : Try.prog.info? fd.type = some i) : i.size ≠ 0 := by
  simp only [cvM, Bool.or_eq_true, Bool.and_eq_true, beq_iff_eq] at h
  rcases h with (⟨rfl, h⟩ | ⟨rfl, h⟩) | ⟨rfl, _⟩
  · cases h
  · cases h
  · rw [Try.underlying35] at h1
    simp only [Option.some.injEq, TypeDesc.struct.injEq] at h1
    subst h1
    match f, h2 with
    | 0, h2 =>
      simp only [List.getElem?_toArray, List.getElem?_cons_zero, Option.some.injEq] at h2
      subst h2
      have := infoStr
      rw [h3] at this
      simp only [Option.map_some, Option.some.injEq] at this
      omega
    | 1, h2 =>
      simp only [List.getElem?_toArray, List.getElem?_cons_zero, List.getElem?_cons_succ, Option.some.injEq] at h2
      subst h2
      have := infoInt
      rw [h3] at this
      simp only [Option.map_some, Option.some.injEq] at this
      omega
    | n + 2, h2 => simp at h2
theorem calmM : CalmOn ptM SM cvM Try.prog := by
  refine ⟨⟨fun t ht => ?_, fun f hf => ?_, fun s h f fields fd h1 h2 i h3 => ?_, fun s d hne h => ?_⟩, fun f hf => ?_⟩
  · simp only [ptM, List.contains_eq_mem, List.mem_cons, List.not_mem_nil, or_false, decide_eq_true_eq] at ht
    rcases ht with rfl | rfl | rfl | rfl | rfl
    · exact ⟨_, Try.underlying3, rfl⟩
    · exact ⟨_, Try.underlying4, rfl⟩
    · exact ⟨_, Try.underlying9, rfl⟩
    · exact ⟨_, Try.underlying23, rfl⟩
    · exact ⟨_, Try.underlying32, rfl⟩
  · simp only [SM, List.contains_eq_mem, List.mem_cons, List.not_mem_nil, or_false, decide_eq_true_eq] at hf
    rcases hf with rfl | rfl | rfl | rfl | rfl | rfl | rfl | rfl | rfl | rfl | rfl | rfl
    · exact ⟨_, Try.func10, by kernel_rfl, by kernel_rfl⟩
    · exact ⟨_, Try.func11, by kernel_rfl, by kernel_rfl⟩
    · exact ⟨_, Try.func12, by kernel_rfl, by kernel_rfl⟩
    · exact ⟨_, Try.func13, by kernel_rfl, by kernel_rfl⟩
    · exact ⟨_, Try.func15, by kernel_rfl, by kernel_rfl⟩
    · exact ⟨_, Try.func18, by kernel_rfl, by kernel_rfl⟩
    · exact ⟨_, Try.func19, by kernel_rfl, by kernel_rfl⟩
    · exact ⟨_, Try.func20, by kernel_rfl, by kernel_rfl⟩
    · exact ⟨_, Try.func21, by kernel_rfl, by kernel_rfl⟩
    · exact ⟨_, Try.func28, by kernel_rfl, by kernel_rfl⟩
    · exact ⟨_, Try.func27, by kernel_rfl, by kernel_rfl⟩
    · exact ⟨_, Try.func16, by kernel_rfl, by kernel_rfl⟩
  · exact cvM_fld h h1 h2 h3
  · exact cvM_conv hne h
  · simp only [SM, List.contains_eq_mem, List.mem_cons, List.not_mem_nil, or_false, decide_eq_true_eq] at hf
    rcases hf with rfl | rfl | rfl | rfl | rfl | rfl | rfl | rfl | rfl | rfl | rfl | rfl
    · exact calm_body Try.func10 calm_many ⟨_, rfl⟩
    · exact calm_body Try.func11 calm_copyLists ⟨_, rfl⟩
    · exact calm_body Try.func12 calm_copyInts ⟨_, rfl⟩
    · exact calm_body Try.func13 calm_SameInts ⟨_, rfl⟩
    · exact calm_body Try.func15 calm_refMerge ⟨_, rfl⟩
    · exact calm_body Try.func18 calm_refTurns ⟨_, rfl⟩
    · exact calm_body Try.func19 calm_StreamI ⟨_, rfl⟩
    · exact calm_body Try.func20 calm_StreamP ⟨_, rfl⟩
    · exact calm_body Try.func21 calm_CloneI ⟨_, rfl⟩
    · exact calm_body Try.func28 calm_CloneP ⟨_, rfl⟩
    · exact calm_body Try.func27 calm_turn ⟨_, rfl⟩
    · exact calm_body Try.func16 calm_Show ⟨_, rfl⟩
end Go.Proofs.Ytmllcfkgkkbkpaa
/-
  THE PROGRAM HOLDS THE LIBRARY's sync.WaitGroup: its numbers.
-/
namespace Go.Proofs.Ytmllcfkgkkbkpaa
open Go Go.Conc Go.RowKit Go.Conc.Lib
abbrev wgl : WgLink := { add := 24, done := 26, wait := 23, relMerge := 41, disable := 31, enable := 33, inBubble := 39, associate := 42, fatal := 43, uOr := 44, uAdd := 45, raceRead := 46, uLoad := 32, uStore := 47, disassociate := 37, semrelease := 48, acquire := 34, isAssociated := 35, uCas := 36, raceWrite := 38, semacquire := 40, orU64 := 53, addU64 := 54, loadU64 := 51, storeU64 := 55, casU64 := 52, tWgP := 71, tUP := 75, tAssoc := 81, tWg := 57, tAU := 54, tU64 := 52, tUint := 73, tU32 := 55, tPU32 := 79, tPAU := 90, tPU64 := 92, tNoCopy := 49, tANoCopy := 50, tAlign64 := 51 }
theorem wgLib : WgLib Try.prog wgl :=
  ⟨Try.func24, Try.func26, Try.func23, Try.func41, Try.func31, Try.func33, Try.func39, Try.func42, Try.func43, Try.func44, Try.func45, Try.func46, Try.func32, Try.func47, Try.func37, Try.func48, Try.func34, Try.func35, Try.func36, Try.func38, Try.func40, Try.func53, Try.func54, Try.func51, Try.func55, Try.func52, Try.underlying71, Try.runUnderlying71, Try.sizeOf71, Try.isAgg71, Try.zeroValue71, Try.underlying75, Try.runUnderlying75, Try.sizeOf75, Try.isAgg75, Try.zeroValue75, Try.underlying81, Try.runUnderlying81, Try.sizeOf81, Try.isAgg81, Try.zeroValue81, Try.underlying57, Try.runUnderlying57, Try.sizeOf57, Try.isAgg57, Try.zeroValue57, Try.underlying54, Try.runUnderlying54, Try.sizeOf54, Try.isAgg54, Try.zeroValue54, Try.underlying52, Try.runUnderlying52, Try.sizeOf52, Try.isAgg52, Try.zeroValue52, Try.underlying73, Try.runUnderlying73, Try.sizeOf73, Try.isAgg73, Try.zeroValue73, Try.underlying55, Try.runUnderlying55, Try.sizeOf55, Try.isAgg55, Try.zeroValue55, Try.underlying79, Try.runUnderlying79, Try.sizeOf79, Try.isAgg79, Try.zeroValue79, Try.underlying90, Try.runUnderlying90, Try.sizeOf90, Try.isAgg90, Try.zeroValue90, Try.underlying92, Try.runUnderlying92, Try.sizeOf92, Try.isAgg92, Try.zeroValue92, Try.underlying0, Try.runUnderlying0, Try.sizeOf0, Try.isAgg0, Try.zeroValue0, Try.underlying3, Try.runUnderlying3, Try.sizeOf3, Try.isAgg3, Try.zeroValue3, Try.underlying4, Try.runUnderlying4, Try.sizeOf4, Try.isAgg4, Try.zeroValue4, Try.underlying9, Try.runUnderlying9, Try.sizeOf9, Try.isAgg9, Try.zeroValue9, Try.underlying20, Try.runUnderlying20, Try.sizeOf20, Try.isAgg20, Try.zeroValue20, Try.underlying21, Try.runUnderlying21, Try.sizeOf21, Try.isAgg21, Try.zeroValue21, (by kernel_rfl), (by kernel_rfl)⟩
end Go.Proofs.Ytmllcfkgkkbkpaa
/-
  Bytes as numbers and as cells; what it means that a slice of bytes reads as a list. No program is in sight here.
-/
namespace Go.Proofs.Ytmllcfkgkkbkpaa
open Go.RowKit

theorem ret_int {k : IntKind} {a b : Int} (h : a = b) : Ending.returned (.int k a) = .returned (.int k b) := by rw [h]
theorem ret_bool {a b : Bool} (h : a = b) : Ending.returned (.bool a) = .returned (.bool b) := by rw [h]

/-- byte k of a list as a number; 0 beyond its end -/
def bt (l : List UInt8) (k : Nat) : Int := ((l.getD k 0).toNat : Int)
theorem bt_nonneg (l : List UInt8) (k : Nat) : 0 ≤ bt l k := by unfold bt; omega
theorem bt_le (l : List UInt8) (k : Nat) : bt l k ≤ 255 := by
  unfold bt; have := (l.getD k 0).toNat_lt; omega
theorem bt_get (l : List UInt8) (k : Nat) (h : k < l.length) : bt l k = (l[k].toNat : Int) := by
  unfold bt; rw [List.getD_eq_getElem?_getD, List.getElem?_eq_getElem h]; rfl
theorem take_snoc (l : List UInt8) (k : Nat) (h : k < l.length) : l.take (k + 1) = l.take k ++ [l[k]] := by
  rw [List.take_succ_eq_append_getElem h]

/-- the cells of a list of bytes -/
def by8 (l : List UInt8) : List Value := l.map fun b => .int .u8 (b.toNat : Int)
theorem by8_length (l : List UInt8) : (by8 l).length = l.length := by simp [by8]
theorem by8_append (a b : List UInt8) : by8 (a ++ b) = by8 a ++ by8 b := by simp [by8]
theorem by8_get (l : List UInt8) (k : Nat) (h : k < l.length) : (by8 l)[k]? = some (.int .u8 (bt l k)) := by
  rw [bt_get l k h]; simp [by8, h]

/-- the bytes l stand at the address (whatever it is, where there are none) -/
def In8 (w : World) (p : Option Addr) (l : List UInt8) : Prop :=
  0 < l.length → ∃ b o, p = some ⟨b, o, none⟩ ∧ ∀ i, i < l.length → w.cell? ⟨b, o + i, none⟩ = some (.int .u8 (bt l i))

theorem In8.at {w : World} {p : Option Addr} {l : List UInt8} (h : In8 w p l) {k : Nat} (hk : k < l.length) :
    ∃ b o, p = some ⟨b, o, none⟩ ∧ ∀ i, i < l.length → w.cell? ⟨b, o + i, none⟩ = some (.int .u8 (bt l i)) := h (by omega)

end Go.Proofs.Ytmllcfkgkkbkpaa
/-
  append onto a row that the call owns, of whatever is appended: a slice (nil, empty or not), a string's bytes. No program is in sight here.
-/
namespace Go.Proofs.Ytmllcfkgkkbkpaa
open Go.RowKit

section
variable {P : Program} (w : World)

theorem run_room_row (t tx ty e : TypeId) (i : TypeInfo) (ht : P.underlying t = some (.slice e)) (hi : P.info? e = some i)
    (g sLen sCap : Nat) (cur : Array Value) (hg : w.heap[g]? = some (.cells cur e (0, 0)))
    (x : Value) (m : Nat) (news : List Value) (hs : Src P i.size tx x m news w)
    (hroom : sLen + m ≤ sCap) (hfit : sLen * i.size + news.length ≤ cur.size) :
    (Builtin.append_ #[t, tx] ty #[.slice (some ⟨g, 0, none⟩) sLen sCap, x]).run P w =
      .ok (.slice (some ⟨g, 0, none⟩) (sLen + m) sCap) (w.setRow g (cur.toList.take (sLen * i.size) ++ news ++ cur.toList.drop (sLen * i.size + news.length)).toArray) := by
  have hst := run_storeCells_at P g (sLen * i.size) e news 0 cur w hg (by simpa using hfit) hs.one
  simp only [Nat.add_zero] at hst
  rcases hs.kind with ⟨e', hk⟩ | hk <;> simp [Builtin.append_, run_underlying ht, run_underlying hk, sizeOf, typeInfo, hi, hs.len, hroom, hs.cells, Addr.add_lit, hst]

theorem run_nothing_nil (t tx ty e : TypeId) (i : TypeInfo) (ht : P.underlying t = some (.slice e)) (hi : P.info? e = some i) (x : Value) (hs : Src P i.size tx x 0 [] w) :
    (Builtin.append_ #[t, tx] ty #[.slice none 0 0, x]).run P w = .ok (.slice none 0 0) w := by
  rcases hs.kind with ⟨e', hk⟩ | hk <;> simp [Builtin.append_, run_underlying ht, run_underlying hk, sizeOf, typeInfo, hi, hs.len, hs.cells]

theorem run_append_src (base : Nat) (t tx ty e : TypeId) (i : TypeInfo) (z : Value) (size bytes : Nat) (ht : P.underlying t = some (.slice e)) (hi : P.info? e = some i) (hz : i.zero = some z)
    (hsize : i.size = size) (hby : i.bytes = bytes) (hzs : z.cells.size = size)
    (v : Value) (n : Nat) (xs : List Value) (hown : w.ownsRow base e size v n xs)
    (x : Value) (m : Nat) (news : List Value) (hs : Src P size tx x m news w)
    (h63 : n + m ≤ maxLen) (hbytes : (n + m) * bytes ≤ 140737488355328) (hbase : base ≤ w.heap.size) :
    ∃ v' w', (Builtin.append_ #[t, tx] ty #[v, x]).run P w = .ok v' w' ∧ w'.ownsRow base e size v' (n + m) (xs ++ news) ∧ w.grownBy w' v.ownBlock ∧
      (v' = .slice none 0 0 ↔ v = .slice none 0 0 ∧ m = 0) := by
  subst hsize
  subst hby
  have hl : news.length = m * i.size := hs.newsLen
  have hsmall : n + m ≤ 9223372036854775807 := by simp only [maxLen] at h63; omega
  have hlen : (xs ++ news).length = (n + m) * i.size := by rw [List.length_append, hown.1, hl, Nat.add_mul]
  have grown : ∀ (old : Nat), old < n + m → ∀ (row : Option Nat),
      (w.drew.alloc (.cells ((xs ++ news).toArray ++ Builtin.zeroCells z.cells (grownCap w (n + m) old e - (n + m))) e)).ownsRow base e i.size
        (.slice (some ⟨w.heap.size, 0, none⟩) (n + m) (grownCap w (n + m) old e)) (n + m) (xs ++ news) ∧
      w.grownBy (w.drew.alloc (.cells ((xs ++ news).toArray ++ Builtin.zeroCells z.cells (grownCap w (n + m) old e - (n + m))) e)) row := by
    intro old ho row
    have hge := grownCap_ge w (n + m) old e
    have hcm : grownCap w (n + m) old e ≤ maxLen := grownCap_le_maxLen w (n + m) old e h63
    refine ⟨⟨hlen, .inr ⟨w.heap.size, _, _, rfl, hbase, heap_alloc_new w.drew _, hge, hcm, ?_, ?_⟩⟩, ⟨rfl, rfl, rfl, by simp, fun k hk _ => Below.heap_alloc w.drew _ k hk⟩⟩
    · simp only [Array.size_append, List.size_toArray, size_zeroCells, hzs, hlen, ← Nat.add_mul]
      congr 1
      omega
    · simp only [Array.toList_append]
      rw [← hlen]
      exact List.take_left
  rcases hown.2 with ⟨rfl, rfl⟩ | ⟨g, cap, cur, rfl, hbg, hg, hnc, hcm, hcs, htake⟩
  · have hx : xs = [] := List.eq_nil_of_length_eq_zero (by simpa using hown.1)
    subst hx
    by_cases hm : m = 0
    · subst hm
      have hn : news = [] := List.eq_nil_of_length_eq_zero (by simpa using hl)
      subst hn
      exact ⟨.slice none 0 0, w, run_nothing_nil w t tx ty e i ht hi x hs, World.ownsRow_nil w base e i.size, ⟨rfl, rfl, rfl, Nat.le_refl _, fun _ _ _ => rfl⟩, by simp⟩
    · have hr := run_append_grow_src (P := P) w t tx ty e i z ht hi hz none 0 0 [] (run_firstCells_none w.drew i.size 0 0 0) x m news hs (by omega) (by omega) (growslice_fits (by omega) (by simpa using hbytes))
      have hgr := grown 0 (by omega) (Value.ownBlock (.slice none 0 0))
      simp only [Nat.zero_add, List.nil_append] at hgr hr ⊢
      exact ⟨_, _, hr, hgr.1, hgr.2, by simp [hm]⟩
  · by_cases hroom : n + m ≤ cap
    · have hfit : n * i.size + news.length ≤ cur.size := by rw [hl, hcs, ← Nat.add_mul]; exact Nat.mul_le_mul_right _ hroom
      have hr := run_room_row (P := P) w t tx ty e i ht hi g n cap cur hg x m news hs hroom hfit
      refine ⟨_, _, hr, ⟨hlen, .inr ⟨g, cap, _, rfl, hbg, setRow_heap w g cur _ e _ hg, hroom, hcm, ?_, ?_⟩⟩, ⟨rfl, rfl, rfl, by simp, fun k _ hk => setRow_other w g k _ (fun e => hk (by simp [Value.ownBlock, e]))⟩, by simp⟩
      · simp only [List.size_toArray, List.length_append, List.length_take, List.length_drop, Array.length_toList]
        omega
      · rw [htake, ← hlen]
        exact List.take_left
    · have holds : ∀ j u, xs[j]? = some u → w.cell? ((⟨g, 0, none⟩ : Addr).add j) = some u := hown.cells (g := g) rfl
      have hold := run_firstCells_some (P := P) w.drew i.size n ⟨g, 0, none⟩ n cap xs hown.1 (by simpa using holds)
      have hr := run_append_grow_src (P := P) w t tx ty e i z ht hi hz (some ⟨g, 0, none⟩) n cap xs hold x m news hs (by omega) (by omega) (growslice_fits (by omega) hbytes)
      have hgr := grown cap (by omega) (Value.ownBlock (.slice (some ⟨g, 0, none⟩) n cap))
      exact ⟨_, _, hr, hgr.1, hgr.2, by simp⟩
end

section
variable {P : Program} (w : World)

/-- append as a law for the walk: the row is the call's own, the source whatever -/
theorem wpList_append_src {ops : Array Oper} {rest : List Oper} {o : Oper} {a : Act} {Q : Exit → Act → World → Prop} (hgd : o.guard = none) (s x : Operand) (t tx : TypeId)
    (ho : o.op = .call { callee := .builtin .append, args := #[s, x], argTypes := #[t, tx] })
    (base : Nat) (e : TypeId) (z : Value) (size bytes : Nat) (ht : P.underlying t = some (.slice e)) (hi : (P.info? e).map (fun i => (i.zero, i.size, i.bytes)) = some (some z, size, bytes))
    (hzs : z.cells.size = size)
    (v : Value) (n : Nat) (xs : List Value) (hv : a.eval s = v) (hown : w.ownsRow base e size v n xs)
    (y : Value) (m : Nat) (news : List Value) (hx : a.eval x = y) (hs : Src P size tx y m news w)
    (h63 : n + m ≤ maxLen) (hbytes : (n + m) * bytes ≤ 140737488355328) (hbase : base ≤ w.heap.size)
    (h : ∀ v' w', w'.ownsRow base e size v' (n + m) (xs ++ news) → w.grownBy w' v.ownBlock → (v' = .slice none 0 0 ↔ v = .slice none 0 0 ∧ m = 0) → wpList P ops Q rest (a.put o.dst v') w') : wpList P ops Q (o :: rest) a w := by
  refine wpList_plain hgd fun K hK => ?_
  obtain ⟨i, hi, hz, hz1, hz2⟩ := info_parts hi
  obtain ⟨v', w', hr, h2, h3, h4⟩ := run_append_src (P := P) w base t tx o.type e i z size bytes ht hi hz hz1 hz2 hzs v n xs hown y m news hs h63 hbytes hbase
  unfold Oper.wp execOp
  simp only [ho, resolve, invoke, builtin, Sem.run_bind, Sem.run_pure, Result.andThen_ok, List.map_toArray, List.map_cons, List.map_nil, hv, hx, hr]
  exact hK _ _ (h v' w' h2 h3 h4)
end
end Go.Proofs.Ytmllcfkgkkbkpaa
/-
  Rows of bytes that a call owns; what stays as it was. The numbers of the types are this seat's; no function is in sight here.
-/
namespace Go.Proofs.Ytmllcfkgkkbkpaa
open Go.RowKit

theorem info8 : (Try.prog.info? 5).map (fun i => (i.zero, i.size, i.bytes)) = some (some (.int .u8 0), 1, 1) := by kernel_rfl

/-- the slice v is a row of the call's own (in a block from base on, or nil) that holds the bytes l -/
def Own8 (w : World) (base : Nat) (v : Value) (l : List UInt8) : Prop := w.ownsRow base 5 1 v l.length (by8 l)

theorem Own8.nil (w : World) (base : Nat) : Own8 w base (.slice none 0 0) [] := World.ownsRow_nil _ _ _ _

theorem by8_mem_one (l : List UInt8) : ∀ u ∈ by8 l, u.oneCell' = true := by
  intro u hu; obtain ⟨b, _, rfl⟩ := List.mem_map.1 hu; rfl

theorem Own8.shape {w : World} {base : Nat} {v : Value} {l : List UInt8} (h : Own8 w base v l) :
    ∃ p c, v = .slice p l.length c ∧ l.length ≤ c ∧ c ≤ maxLen ∧ In8 w p l ∧ (∀ a, p = some a → base ≤ a.block ∧ a.block < w.heap.size ∧ a.off = 0 ∧ a.spot = none) := by
  have hlt := h.lt
  rcases h.2 with ⟨rfl, hn⟩ | ⟨g, cap, cur, rfl, hb, hg, hnc, hcm, hcs, ht⟩
  · refine ⟨none, 0, by rw [hn], by omega, by unfold maxLen; omega, fun h0 => by omega, fun a ha => by cases ha⟩
  · refine ⟨some ⟨g, 0, none⟩, cap, rfl, hnc, hcm, fun h0 => ⟨g, 0, rfl, fun i hi => ?_⟩, fun a ha => ?_⟩
    · have := h.cellAt (g := g) (cap := cap) i (by omega)
      rw [Nat.zero_add, this, by8_get l i hi]
    · obtain rfl := Option.some.inj ha
      exact ⟨hb, (hlt g rfl).2, rfl, rfl⟩

theorem Own8.in8 {w : World} {base : Nat} {v : Value} {l : List UInt8} (h : Own8 w base v l) : ∃ p c, v = .slice p l.length c ∧ l.length ≤ c ∧ c ≤ maxLen ∧ In8 w p l := by
  obtain ⟨p, c, h1, h2, h3, h4, _⟩ := h.shape
  exact ⟨p, c, h1, h2, h3, h4⟩

theorem Own8.in8n {w : World} {base : Nat} {v : Value} {l : List UInt8} {n : Nat} (h : Own8 w base v l) (hn : l.length = n) : ∃ p c, v = .slice p n c ∧ n ≤ c ∧ c ≤ maxLen ∧ In8 w p l := by
  subst hn; exact h.in8

theorem In8.below {w w' : World} {p : Option Addr} {l : List UInt8} (h : In8 w p l) (hb : Below w.heap.size w w') : In8 w' p l := by
  intro h0
  obtain ⟨b, o, rfl, hc⟩ := h h0
  refine ⟨b, o, rfl, fun i hi => ?_⟩
  have := hc i hi
  rw [hb.cell (p := ⟨b, o + i, none⟩) (World.block_lt_of_cell? w _ this)]
  exact this

theorem ownsRow_below {w w' : World} {base e size : Nat} {v : Value} {n : Nat} {xs : List Value} (h : w.ownsRow base e size v n xs) (hb : Below w.heap.size w w') : w'.ownsRow base e size v n xs := by
  refine ⟨h.1, ?_⟩
  rcases h.2 with hn | ⟨g, cap, cur, rfl, hbg, hg, r⟩
  · exact .inl hn
  · exact .inr ⟨g, cap, cur, rfl, hbg, by rw [hb.block g (Array.getElem?_eq_some_iff.1 hg).1]; exact hg, r⟩
theorem ownsRow_mono {w : World} {base base' e size : Nat} {v : Value} {n : Nat} {xs : List Value} (h : w.ownsRow base e size v n xs) (hb : base' ≤ base) : w.ownsRow base' e size v n xs := by
  refine ⟨h.1, ?_⟩
  rcases h.2 with hn | ⟨g, cap, cur, rfl, hbg, r⟩
  · exact .inl hn
  · exact .inr ⟨g, cap, cur, rfl, by omega, r⟩
theorem Own8.below {w w' : World} {base : Nat} {v : Value} {l : List UInt8} (h : Own8 w base v l) (hb : Below w.heap.size w w') : Own8 w' base v l := ownsRow_below h hb
theorem Own8.mono {w : World} {base base' : Nat} {v : Value} {l : List UInt8} (h : Own8 w base v l) (hb : base' ≤ base) : Own8 w base' v l := ownsRow_mono h hb
theorem Own8.alloc {w : World} {base : Nat} {v : Value} {l : List UInt8} (h : Own8 w base v l) (o : Obj) : Own8 (w.alloc o) base v l := World.ownsRow.alloc h o

/-- a source of bytes: a slice that reads as l, wherever it lies -/
theorem Src.of8 {w : World} {p : Option Addr} {l : List UInt8} {c : Nat} (h : In8 w p l) : Src Try.prog 1 43 (.slice p l.length c) l.length (by8 l) w := by
  by_cases h0 : 0 < l.length
  · obtain ⟨b, o, rfl, hc⟩ := h h0
    refine Src.ofSlice w Try.underlying43 ⟨b, o, none⟩ l.length c (by8 l) (by simp [by8]) (fun j u hu => ?_) (by8_mem_one l)
    have hj : j < l.length := by have := (List.getElem?_eq_some_iff.1 hu).1; simpa [by8] using this
    rw [by8_get l j hj] at hu
    rw [Go.WideShapes.add_plain, ← Option.some.inj hu]; exact hc j hj
  · obtain rfl : l = [] := List.eq_nil_of_length_eq_zero (by omega)
    cases p with
    | none => exact Src.ofNil w Try.underlying43 c
    | some a => exact Src.ofSlice w Try.underlying43 a 0 c [] rfl (fun j u hu => by simp at hu) (fun u hu => by cases hu)

theorem bt_append (l m : List UInt8) (i : Nat) (h : i < l.length) : bt (l ++ m) i = bt l i := by
  unfold bt; rw [List.getD_eq_getElem?_getD, List.getD_eq_getElem?_getD, List.getElem?_append_left h]
theorem In8.fore {w : World} {p : Option Addr} {l m : List UInt8} (h : In8 w p (l ++ m)) : In8 w p l := by
  intro h0
  obtain ⟨b, o, rfl, hc⟩ := h (by simp; omega)
  exact ⟨b, o, rfl, fun i hi => by rw [hc i (by simp; omega), bt_append l m i hi]⟩
theorem cell_past {w : World} {a : Addr} {v : Value} (h : w.cell? a = some v) (o : Obj) : (w.alloc o).cell? a = some v :=
  (((Below.refl w.heap.size w).alloc (Nat.le_refl _) o).cell (World.block_lt_of_cell? w _ h)).trans h
theorem In8.alloc {w : World} {p : Option Addr} {l : List UInt8} (h : In8 w p l) (o : Obj) : In8 (w.alloc o) p l := h.below ((Below.refl _ w).alloc (Nat.le_refl _) o)
theorem Own8.made (w : World) : Own8 (w.alloc (.cells #[] 5)) w.heap.size (.slice (some ⟨w.heap.size, 0, none⟩) 0 0) [] :=
  World.ownsRow_made w #[] 0 (Nat.le_refl _) (by unfold maxLen; omega) rfl

theorem bdrewN {B : Nat} {a w : World} (h : Below B a w) (n : Nat) : Below B a (w.drewN n) := ⟨h.os, h.tape, h.output, h.size, h.block⟩

theorem own_grown {w w1 w' : World} {B : Nat} {v : Value} {l : List UInt8} (hB : Below B w w1) (hs : B ≤ w1.heap.size) (hown : Own8 w1 B v l) (hg : w1.grownBy w' v.ownBlock) : Below B w w' :=
  hB.grown hg hs (fun k e => (hown.lt k e).1)

/-- the byte of a number -/
def ubyte (z : Int) : UInt8 := UInt8.ofNat z.toNat
theorem ubyte_toNat {z : Int} (h0 : 0 ≤ z) (h1 : z ≤ 255) : ((ubyte z).toNat : Int) = z := by
  unfold ubyte; rw [UInt8.toNat_ofNat']; omega
theorem ubyte_bt (l : List UInt8) (k : Nat) (h : k < l.length) : ubyte (bt l k) = l[k] := by
  rw [bt_get l k h]; unfold ubyte; simp

/-- a new block of bytes that are written out -/
theorem In8.lit (w : World) (l : List UInt8) (c : Array Value) (fr : Nat × Nat) (h : c.toList = by8 l) : In8 (w.alloc (.cells c 5 fr)) (some ⟨w.heap.size, 0, none⟩) l := by
  intro _
  refine ⟨w.heap.size, 0, rfl, fun i hi => ?_⟩
  rw [cell_of_row _ _ _ _ _ _ (heap_alloc_new w (.cells c 5 fr)), ← by8_get l i hi, ← h, Nat.zero_add, Array.getElem?_toList]

/-- a new block of one byte -/
theorem In8.one (w : World) (z : Int) (h0 : 0 ≤ z) (h1 : z ≤ 255) : In8 (w.alloc (.cells #[.int .u8 z] 5)) (some ⟨w.heap.size, 0, none⟩) [ubyte z] := by
  intro _
  refine ⟨w.heap.size, 0, rfl, fun i hi => ?_⟩
  obtain rfl : i = 0 := by simpa using hi
  have e : bt [ubyte z] 0 = z := by rw [bt_get _ 0 (by simp)]; exact ubyte_toNat h0 h1
  rw [e]
  simp only [World.cell?, heap_alloc_new w (.cells #[.int .u8 z] 5)]; rfl

section
variable {w : World}
/-- append of bytes onto bytes of the call's own -/
theorem wpList_append8 {ops : Array Oper} {rest : List Oper} {o : Oper} {a : Act} {Q : Exit → Act → World → Prop} (hgd : o.guard = none) (s x : Operand)
    (ho : o.op = .call { callee := .builtin .append, args := #[s, x], argTypes := #[43, 43] })
    (base : Nat) (v : Value) (l : List UInt8) (hv : a.eval s = v) (hown : Own8 w base v l)
    (p : Option Addr) (m c : Nat) (l2 : List UInt8) (hm : l2.length = m) (hx : a.eval x = .slice p m c) (hin : In8 w p l2)
    (hr : l.length + m ≤ 140737488355328) (hbase : base ≤ w.heap.size)
    (h : ∀ v' w', Own8 w' base v' (l ++ l2) → w.grownBy w' v.ownBlock → (v' = .slice none 0 0 ↔ v = .slice none 0 0 ∧ m = 0) → wpList Try.prog ops Q rest (a.put o.dst v') w') : wpList Try.prog ops Q (o :: rest) a w := by
  subst hm
  refine wpList_append_src w hgd s x 43 43 ho base 5 (.int .u8 0) 1 1 Try.underlying43 info8 rfl v l.length (by8 l) hv hown _ l2.length (by8 l2) hx (Src.of8 hin) (by unfold maxLen; omega) (by omega) hbase ?_
  intro v' w' ho' hg hn
  exact h v' w' (by unfold Own8; rw [List.length_append, by8_append]; exact ho') hg hn
/-- the same, the source being bytes of the call's own -/
theorem wpList_append8o {ops : Array Oper} {rest : List Oper} {o : Oper} {a : Act} {Q : Exit → Act → World → Prop} (hgd : o.guard = none) (s x : Operand)
    (ho : o.op = .call { callee := .builtin .append, args := #[s, x], argTypes := #[43, 43] })
    (base : Nat) (v : Value) (l : List UInt8) (hv : a.eval s = v) (hown : Own8 w base v l)
    (b2 : Nat) (y : Value) (l2 : List UInt8) (hx : a.eval x = y) (hin : Own8 w b2 y l2)
    (hr : l.length + l2.length ≤ 140737488355328) (hbase : base ≤ w.heap.size)
    (h : ∀ v' w', Own8 w' base v' (l ++ l2) → w.grownBy w' v.ownBlock → wpList Try.prog ops Q rest (a.put o.dst v') w') : wpList Try.prog ops Q (o :: rest) a w := by
  obtain ⟨p, c, rfl, _, _, h3⟩ := hin.in8
  exact wpList_append8 hgd s x ho base v l hv hown p _ c l2 rfl hx h3 hr hbase fun v' w' h1 h2 _ => h v' w' h1 h2
/-- a string's bytes -/
theorem wpList_append8s {ops : Array Oper} {rest : List Oper} {o : Oper} {a : Act} {Q : Exit → Act → World → Prop} (hgd : o.guard = none) (s x : Operand)
    (ho : o.op = .call { callee := .builtin .append, args := #[s, x], argTypes := #[43, 9] })
    (base : Nat) (v : Value) (l : List UInt8) (hv : a.eval s = v) (hown : Own8 w base v l)
    (t : ByteArray) (hx : a.eval x = .string t)
    (hr : l.length + t.size ≤ 140737488355328) (hbase : base ≤ w.heap.size)
    (h : ∀ v' w', Own8 w' base v' (l ++ t.data.toList) → w.grownBy w' v.ownBlock → wpList Try.prog ops Q rest (a.put o.dst v') w') : wpList Try.prog ops Q (o :: rest) a w := by
  have hs : t.data.toList.length = t.size := by rw [Array.length_toList]; rfl
  refine wpList_append_src w hgd s x 43 9 ho base 5 (.int .u8 0) 1 1 Try.underlying43 info8 rfl v l.length (by8 l) hv hown _ t.size (by8 t.data.toList) hx (Src.ofString w Try.underlying9 t) (by unfold maxLen; omega) (by omega) hbase ?_
  intro v' w' ho' hg _
  exact h v' w' (by unfold Own8; rw [List.length_append, by8_append, hs]; exact ho') hg
theorem Own8.lit (w : World) (z : Int) (h0 : 0 ≤ z) (h1 : z ≤ 255) : Own8 (w.alloc (.cells #[.int .u8 z] 5)) w.heap.size (.slice (some ⟨w.heap.size, 0, none⟩) 1 1) [ubyte z] := by
  have h := World.ownsRow_lit (e := 5) (size := 1) w #[.int .u8 z] 1 (Nat.le_refl _) (by unfold maxLen; omega) rfl
  have e : by8 [ubyte z] = [Value.int .u8 z] := by simp [by8, ubyte_toNat h0 h1]
  unfold Own8; rw [e]; exact h
end

section
variable {w : World}
theorem bt_bytes (t : ByteArray) (i : Nat) (h : i < t.size) : Value.int .u8 (bt t.data.toList i) = (t.data.map (fun b => Value.int .u8 (b.toNat : Int)))[i]'(by simpa using h) := by
  have hl : t.data.toList.length = t.size := by rw [Array.length_toList]; rfl
  rw [bt_get _ i (by omega)]; simp
/-- a text's bytes as a new slice -/
theorem wpList_toBytes {ops : Array Oper} {rest : List Oper} {o : Oper} {a : Act} {Q : Exit → Act → World → Prop} (hgd : o.guard = none) (x : Operand)
    (ho : o.op = .convert 9 43 x) (t : ByteArray) (hx : a.eval x = .string t) (hlen : t.size ≤ maxLen)
    (h : ∀ (g c : Nat) (w' : World), w.heap.size ≤ g → g < w'.heap.size → In8 w' (some ⟨g, 0, none⟩) t.data.toList → t.size ≤ c → c ≤ maxLen → Below w.heap.size w w' → (∀ i, i < c → w'.frozen? ⟨g, i, none⟩ = false) →
      wpList Try.prog ops Q rest (a.put o.dst (.slice (some ⟨g, 0, none⟩) t.size c)) w') : wpList Try.prog ops Q (o :: rest) a w := by
  refine wpList_plain hgd fun K hK => ?_
  have hrun := run_bytes_of_string (P := Try.prog) w 9 43 5 t Try.underlying9 Try.underlying43 Try.underlying5
  have hl : t.data.toList.length = t.size := by rw [Array.length_toList]; rfl
  have hge := grownCap_ge w t.size 0 5
  have hsz : (bytesRow t (grownCap w t.size 0 5)).size = grownCap w t.size 0 5 := by
    have h2 : t.data.size = t.size := rfl
    simp only [bytesRow, Array.size_append, Array.size_map, Array.size_replicate]; omega
  have hfin := h w.heap.size (grownCap w t.size 0 5) _ (Nat.le_refl _) (by simp) (fun _ => ⟨w.heap.size, 0, rfl, fun i hi => ?_⟩) hge (grownCap_le_maxLen w t.size 0 5 hlen)
    ((Below.refl _ w).drew.alloc (Nat.le_refl _) (.cells (bytesRow t (grownCap w t.size 0 5)) 5 ((bytesRow t (grownCap w t.size 0 5)).size, (bytesRow t (grownCap w t.size 0 5)).size + 1))) (fun i hi => ?_)
  · unfold Oper.wp execOp
    simp only [ho, hx, hrun, Sem.run_bind, Sem.run_pure, Result.andThen_ok]
    exact hK _ _ hfin
  · have hb : (w.drew.alloc (.cells (bytesRow t (grownCap w t.size 0 5)) 5 ((bytesRow t (grownCap w t.size 0 5)).size, (bytesRow t (grownCap w t.size 0 5)).size + 1))).heap[w.heap.size]? = some (.cells (bytesRow t (grownCap w t.size 0 5)) 5 ((bytesRow t (grownCap w t.size 0 5)).size, (bytesRow t (grownCap w t.size 0 5)).size + 1)) := heap_alloc_new w.drew _
    have hi' : i < (t.data.map (fun b => Value.int .u8 (b.toNat : Int))).size := by simpa [hl] using hi
    rw [cell_of_row _ _ _ _ _ _ hb, Nat.zero_add, bytesRow, Array.getElem?_append_left hi', Array.getElem?_eq_getElem hi', ← bt_bytes t i (by omega)]
  · have hb : (w.drew.alloc (.cells (bytesRow t (grownCap w t.size 0 5)) 5 ((bytesRow t (grownCap w t.size 0 5)).size, (bytesRow t (grownCap w t.size 0 5)).size + 1))).heap[w.heap.size]? = some (.cells (bytesRow t (grownCap w t.size 0 5)) 5 ((bytesRow t (grownCap w t.size 0 5)).size, (bytesRow t (grownCap w t.size 0 5)).size + 1)) := heap_alloc_new w.drew _
    unfold World.frozen?
    rw [hb, hsz]
    simp only [Bool.and_eq_false_iff, decide_eq_false_iff_not]
    omega
end
end Go.Proofs.Ytmllcfkgkkbkpaa
/-
  append onto bytes of the call's own, a little beyond the guide's bound: what grows takes at most five quarters of what is wanted. No program is in sight here, but for the types' numbers.
-/
namespace Go.Proofs.Ytmllcfkgkkbkpaa
open Go.RowKit

theorem growBy_le (need : Nat) : ∀ (r c : Nat), c ≤ need + need / 4 + 192 → Builtin.growBy need r c ≤ need + need / 4 + 192 := by
  intro r
  induction r with
  | zero => intro c h; exact h
  | succ r ih =>
    intro c h
    unfold Builtin.growBy
    by_cases hc : c ≥ need
    · rw [if_pos hc]; exact h
    · rw [if_neg hc]; exact ih _ (by omega)
theorem nextslicecap_le (need old : Nat) (h : old < need) : Builtin.nextslicecap need old ≤ need + need / 4 + 512 := by
  unfold Builtin.nextslicecap
  split
  · omega
  · split
    · omega
    · have := growBy_le need 4 old (by omega); omega

section
variable {P : Program} (w : World)
theorem run_append_fit (base : Nat) (t tx ty e : TypeId) (i : TypeInfo) (z : Value) (size bytes : Nat) (ht : P.underlying t = some (.slice e)) (hi : P.info? e = some i) (hz : i.zero = some z)
    (hsize : i.size = size) (hby : i.bytes = bytes) (hzs : z.cells.size = size)
    (v : Value) (n : Nat) (xs : List Value) (hown : w.ownsRow base e size v n xs)
    (x : Value) (m : Nat) (news : List Value) (hs : Src P size tx x m news w)
    (h63 : n + m ≤ maxLen) (hfit : ∀ old, old < n + m → Builtin.nextslicecap (n + m) old * bytes ≤ 281474976710656) (hbase : base ≤ w.heap.size) :
    ∃ v' w', (Builtin.append_ #[t, tx] ty #[v, x]).run P w = .ok v' w' ∧ w'.ownsRow base e size v' (n + m) (xs ++ news) ∧ w.grownBy w' v.ownBlock ∧
      (v' = .slice none 0 0 ↔ v = .slice none 0 0 ∧ m = 0) := by
  subst hsize
  subst hby
  have hl : news.length = m * i.size := hs.newsLen
  have hsmall : n + m ≤ 9223372036854775807 := by simp only [maxLen] at h63; omega
  have hlen : (xs ++ news).length = (n + m) * i.size := by rw [List.length_append, hown.1, hl, Nat.add_mul]
  have grown : ∀ (old : Nat), old < n + m → ∀ (row : Option Nat),
      (w.drew.alloc (.cells ((xs ++ news).toArray ++ Builtin.zeroCells z.cells (grownCap w (n + m) old e - (n + m))) e)).ownsRow base e i.size
        (.slice (some ⟨w.heap.size, 0, none⟩) (n + m) (grownCap w (n + m) old e)) (n + m) (xs ++ news) ∧
      w.grownBy (w.drew.alloc (.cells ((xs ++ news).toArray ++ Builtin.zeroCells z.cells (grownCap w (n + m) old e - (n + m))) e)) row := by
    intro old ho row
    have hge := grownCap_ge w (n + m) old e
    have hcm : grownCap w (n + m) old e ≤ maxLen := grownCap_le_maxLen w (n + m) old e h63
    refine ⟨⟨hlen, .inr ⟨w.heap.size, _, _, rfl, hbase, heap_alloc_new w.drew _, hge, hcm, ?_, ?_⟩⟩, ⟨rfl, rfl, rfl, by simp, fun k hk _ => Below.heap_alloc w.drew _ k hk⟩⟩
    · simp only [Array.size_append, List.size_toArray, size_zeroCells, hzs, hlen, ← Nat.add_mul]
      congr 1
      omega
    · simp only [Array.toList_append]
      rw [← hlen]
      exact List.take_left
  rcases hown.2 with ⟨rfl, rfl⟩ | ⟨g, cap, cur, rfl, hbg, hg, hnc, hcm, hcs, htake⟩
  · have hx : xs = [] := List.eq_nil_of_length_eq_zero (by simpa using hown.1)
    subst hx
    by_cases hm : m = 0
    · subst hm
      have hn : news = [] := List.eq_nil_of_length_eq_zero (by simpa using hl)
      subst hn
      exact ⟨.slice none 0 0, w, run_nothing_nil w t tx ty e i ht hi x hs, World.ownsRow_nil w base e i.size, ⟨rfl, rfl, rfl, Nat.le_refl _, fun _ _ _ => rfl⟩, by simp⟩
    · have hr := run_append_grow_src (P := P) w t tx ty e i z ht hi hz none 0 0 [] (run_firstCells_none w.drew i.size 0 0 0) x m news hs (by omega) (by omega) (by have := hfit 0 (by omega); simpa using this)
      have hgr := grown 0 (by omega) (Value.ownBlock (.slice none 0 0))
      simp only [Nat.zero_add, List.nil_append] at hgr hr ⊢
      exact ⟨_, _, hr, hgr.1, hgr.2, by simp [hm]⟩
  · by_cases hroom : n + m ≤ cap
    · have hfit : n * i.size + news.length ≤ cur.size := by rw [hl, hcs, ← Nat.add_mul]; exact Nat.mul_le_mul_right _ hroom
      have hr := run_room_row (P := P) w t tx ty e i ht hi g n cap cur hg x m news hs hroom hfit
      refine ⟨_, _, hr, ⟨hlen, .inr ⟨g, cap, _, rfl, hbg, setRow_heap w g cur _ e _ hg, hroom, hcm, ?_, ?_⟩⟩, ⟨rfl, rfl, rfl, by simp, fun k _ hk => setRow_other w g k _ (fun e => hk (by simp [Value.ownBlock, e]))⟩, by simp⟩
      · simp only [List.size_toArray, List.length_append, List.length_take, List.length_drop, Array.length_toList]
        omega
      · rw [htake, ← hlen]
        exact List.take_left
    · have holds : ∀ j u, xs[j]? = some u → w.cell? ((⟨g, 0, none⟩ : Addr).add j) = some u := hown.cells (g := g) rfl
      have hold := run_firstCells_some (P := P) w.drew i.size n ⟨g, 0, none⟩ n cap xs hown.1 (by simpa using holds)
      have hr := run_append_grow_src (P := P) w t tx ty e i z ht hi hz (some ⟨g, 0, none⟩) n cap xs hold x m news hs (by omega) (by omega) (hfit cap (by omega))
      have hgr := grown cap (by omega) (Value.ownBlock (.slice (some ⟨g, 0, none⟩) n cap))
      exact ⟨_, _, hr, hgr.1, hgr.2, by simp⟩
end

/-- append onto a row of the call's own: what grows takes at most five quarters of what is wanted -/
theorem wpList_append_fit {P : Program} (w : World) {ops : Array Oper} {rest : List Oper} {o : Oper} {a : Act} {Q : Exit → Act → World → Prop} (hgd : o.guard = none) (s x : Operand) (t tx : TypeId)
    (ho : o.op = .call { callee := .builtin .append, args := #[s, x], argTypes := #[t, tx] })
    (base : Nat) (e : TypeId) (z : Value) (size bytes : Nat) (ht : P.underlying t = some (.slice e)) (hi : (P.info? e).map (fun i => (i.zero, i.size, i.bytes)) = some (some z, size, bytes))
    (hzs : z.cells.size = size)
    (v : Value) (n : Nat) (xs : List Value) (hv : a.eval s = v) (hown : w.ownsRow base e size v n xs)
    (y : Value) (m : Nat) (news : List Value) (hx : a.eval x = y) (hs : Src P size tx y m news w)
    (h63 : n + m ≤ maxLen) (hbytes : (n + m + (n + m) / 4 + 512) * bytes ≤ 281474976710656) (hbase : base ≤ w.heap.size)
    (h : ∀ v' w', w'.ownsRow base e size v' (n + m) (xs ++ news) → w.grownBy w' v.ownBlock → (v' = .slice none 0 0 ↔ v = .slice none 0 0 ∧ m = 0) → wpList P ops Q rest (a.put o.dst v') w') : wpList P ops Q (o :: rest) a w := by
  refine wpList_plain hgd fun K hK => ?_
  obtain ⟨i, hi, hz, hz1, hz2⟩ := info_parts hi
  obtain ⟨v', w', hr, h2, h3, h4⟩ := run_append_fit (P := P) w base t tx o.type e i z size bytes ht hi hz hz1 hz2 hzs v n xs hown y m news hs h63 (fun old hold => Nat.le_trans (Nat.mul_le_mul_right _ (nextslicecap_le _ _ hold)) hbytes) hbase
  unfold Oper.wp execOp
  simp only [ho, resolve, invoke, builtin, Sem.run_bind, Sem.run_pure, Result.andThen_ok, List.map_toArray, List.map_cons, List.map_nil, hv, hx, hr]
  exact hK _ _ (h v' w' h2 h3 h4)

section
variable {w : World}
/-- append of bytes onto bytes of the call's own: up to 200,000,000,000,000 of them -/
theorem wpList_append8w {ops : Array Oper} {rest : List Oper} {o : Oper} {a : Act} {Q : Exit → Act → World → Prop} (hgd : o.guard = none) (s x : Operand)
    (ho : o.op = .call { callee := .builtin .append, args := #[s, x], argTypes := #[43, 43] })
    (base : Nat) (v : Value) (l : List UInt8) (hv : a.eval s = v) (hown : Own8 w base v l)
    (p : Option Addr) (m c : Nat) (l2 : List UInt8) (hm : l2.length = m) (hx : a.eval x = .slice p m c) (hin : In8 w p l2)
    (hr : l.length + m ≤ 200000000000000) (hbase : base ≤ w.heap.size)
    (h : ∀ v' w', Own8 w' base v' (l ++ l2) → w.grownBy w' v.ownBlock → wpList Try.prog ops Q rest (a.put o.dst v') w') : wpList Try.prog ops Q (o :: rest) a w := by
  subst hm
  refine wpList_plain hgd fun K hK => ?_
  obtain ⟨i, hi, hz, hz1, hz2⟩ := info_parts info8
  obtain ⟨v', w', hr', h2, h3, _⟩ := run_append_fit (P := Try.prog) w base 43 43 o.type 5 i (.int .u8 0) 1 1 Try.underlying43 hi hz hz1 hz2 rfl v l.length (by8 l) hown _ l2.length (by8 l2) (Src.of8 (c := c) hin) (by unfold maxLen; omega) (fun old ho' => by have := nextslicecap_le _ _ ho'; omega) hbase
  unfold Oper.wp execOp
  simp only [ho, resolve, invoke, builtin, Sem.run_bind, Sem.run_pure, Result.andThen_ok, List.map_toArray, List.map_cons, List.map_nil, hv, hx, hr']
  exact hK _ _ (h v' w' (by unfold Own8; rw [List.length_append, by8_append]; exact h2) h3)
end
end Go.Proofs.Ytmllcfkgkkbkpaa
/-
  append, and where the new slice lies; append of noughts. No program is in sight here.
-/
namespace Go.Proofs.Ytmllcfkgkkbkpaa
open Go.RowKit

section
variable {P : Program} (w : World)
theorem run_append_where (base : Nat) (t tx ty e : TypeId) (i : TypeInfo) (z : Value) (size bytes : Nat) (ht : P.underlying t = some (.slice e)) (hi : P.info? e = some i) (hz : i.zero = some z)
    (hsize : i.size = size) (hby : i.bytes = bytes) (hzs : z.cells.size = size)
    (v : Value) (n : Nat) (xs : List Value) (hown : w.ownsRow base e size v n xs)
    (x : Value) (m : Nat) (news : List Value) (hs : Src P size tx x m news w)
    (h63 : n + m ≤ maxLen) (hfit : ∀ old, old < n + m → Builtin.nextslicecap (n + m) old * bytes ≤ 281474976710656) (hbase : base ≤ w.heap.size) :
    ∃ v' w', (Builtin.append_ #[t, tx] ty #[v, x]).run P w = .ok v' w' ∧ w'.ownsRow base e size v' (n + m) (xs ++ news) ∧ w.grownBy w' v.ownBlock ∧
      ((∃ g cap, v = .slice (some ⟨g, 0, none⟩) n cap ∧ v' = .slice (some ⟨g, 0, none⟩) (n + m) cap) ∨ (∃ cap, v' = .slice (some ⟨w.heap.size, 0, none⟩) (n + m) cap ∧ w.grownBy w' none) ∨ (v' = v ∧ w' = w ∧ m = 0)) := by
  subst hsize
  subst hby
  have hl : news.length = m * i.size := hs.newsLen
  have hsmall : n + m ≤ 9223372036854775807 := by simp only [maxLen] at h63; omega
  have hlen : (xs ++ news).length = (n + m) * i.size := by rw [List.length_append, hown.1, hl, Nat.add_mul]
  have grown : ∀ (old : Nat), old < n + m → ∀ (row : Option Nat),
      (w.drew.alloc (.cells ((xs ++ news).toArray ++ Builtin.zeroCells z.cells (grownCap w (n + m) old e - (n + m))) e)).ownsRow base e i.size
        (.slice (some ⟨w.heap.size, 0, none⟩) (n + m) (grownCap w (n + m) old e)) (n + m) (xs ++ news) ∧
      w.grownBy (w.drew.alloc (.cells ((xs ++ news).toArray ++ Builtin.zeroCells z.cells (grownCap w (n + m) old e - (n + m))) e)) row := by
    intro old ho row
    have hge := grownCap_ge w (n + m) old e
    have hcm : grownCap w (n + m) old e ≤ maxLen := grownCap_le_maxLen w (n + m) old e h63
    refine ⟨⟨hlen, .inr ⟨w.heap.size, _, _, rfl, hbase, heap_alloc_new w.drew _, hge, hcm, ?_, ?_⟩⟩, ⟨rfl, rfl, rfl, by simp, fun k hk _ => Below.heap_alloc w.drew _ k hk⟩⟩
    · simp only [Array.size_append, List.size_toArray, size_zeroCells, hzs, hlen, ← Nat.add_mul]
      congr 1
      omega
    · simp only [Array.toList_append]
      rw [← hlen]
      exact List.take_left
  rcases hown.2 with ⟨rfl, rfl⟩ | ⟨g, cap, cur, rfl, hbg, hg, hnc, hcm, hcs, htake⟩
  · have hx : xs = [] := List.eq_nil_of_length_eq_zero (by simpa using hown.1)
    subst hx
    by_cases hm : m = 0
    · subst hm
      have hn : news = [] := List.eq_nil_of_length_eq_zero (by simpa using hl)
      subst hn
      exact ⟨.slice none 0 0, w, run_nothing_nil w t tx ty e i ht hi x hs, World.ownsRow_nil w base e i.size, ⟨rfl, rfl, rfl, Nat.le_refl _, fun _ _ _ => rfl⟩, .inr (.inr ⟨rfl, rfl, rfl⟩)⟩
    · have hr := run_append_grow_src (P := P) w t tx ty e i z ht hi hz none 0 0 [] (run_firstCells_none w.drew i.size 0 0 0) x m news hs (by omega) (by omega) (by have := hfit 0 (by omega); simpa using this)
      have hgr := grown 0 (by omega) (Value.ownBlock (.slice none 0 0))
      have hgr2 := (grown 0 (by omega) none).2
      simp only [Nat.zero_add, List.nil_append] at hgr hgr2 hr ⊢
      exact ⟨_, _, hr, hgr.1, hgr.2, .inr (.inl ⟨_, rfl, hgr2⟩)⟩
  · by_cases hroom : n + m ≤ cap
    · have hfit : n * i.size + news.length ≤ cur.size := by rw [hl, hcs, ← Nat.add_mul]; exact Nat.mul_le_mul_right _ hroom
      have hr := run_room_row (P := P) w t tx ty e i ht hi g n cap cur hg x m news hs hroom hfit
      refine ⟨_, _, hr, ⟨hlen, .inr ⟨g, cap, _, rfl, hbg, setRow_heap w g cur _ e _ hg, hroom, hcm, ?_, ?_⟩⟩, ⟨rfl, rfl, rfl, by simp, fun k _ hk => setRow_other w g k _ (fun e => hk (by simp [Value.ownBlock, e]))⟩, .inl ⟨g, cap, rfl, rfl⟩⟩
      · simp only [List.size_toArray, List.length_append, List.length_take, List.length_drop, Array.length_toList]
        omega
      · rw [htake, ← hlen]
        exact List.take_left
    · have holds : ∀ j u, xs[j]? = some u → w.cell? ((⟨g, 0, none⟩ : Addr).add j) = some u := hown.cells (g := g) rfl
      have hold := run_firstCells_some (P := P) w.drew i.size n ⟨g, 0, none⟩ n cap xs hown.1 (by simpa using holds)
      have hr := run_append_grow_src (P := P) w t tx ty e i z ht hi hz (some ⟨g, 0, none⟩) n cap xs hold x m news hs (by omega) (by omega) (hfit cap (by omega))
      have hgr := grown cap (by omega) (Value.ownBlock (.slice (some ⟨g, 0, none⟩) n cap))
      exact ⟨_, _, hr, hgr.1, hgr.2, .inr (.inl ⟨_, rfl, (grown cap (by omega) none).2⟩)⟩

/-- append of so many noughts ('append(s, make([]T, n)...)'): the same as an append of a slice of noughts -/
theorem run_zeros (t ti ty e : TypeId) (k : IntKind) (i : TypeInfo) (z : Value) (size : Nat) (ht : P.underlying t = some (.slice e)) (hti : P.underlying ti = some (.int k)) (hi : P.info? e = some i) (hz : i.zero = some z) (hsize : i.size = size) (hzs : z.cells.size = size)
    (v : Value) (n : Nat) (xs : List Value) (base : Nat) (hown : w.ownsRow base e size v n xs) (m : Nat) (hm0 : 0 < m) (hm : m ≤ 100000) (h1 : ∀ u ∈ (Builtin.zeroCells z.cells m).toList, u.oneCell' = true)
    (hs0 : 0 < size) (hb : (m : Int) * i.bytes ≤ 281474976710656) (h63 : n + m ≤ maxLen) (hfit : ∀ old, old < n + m → Builtin.nextslicecap (n + m) old * i.bytes ≤ 281474976710656) (hbase : base ≤ w.heap.size) :
    ∃ v' w', (Builtin.append_ #[t, ti] ty #[v, .int .i64 m]).run P w = .ok v' w' ∧ w'.ownsRow base e size v' (n + m) (xs ++ (Builtin.zeroCells z.cells m).toList) ∧ w.grownBy w' v.ownBlock ∧
      ((∃ g cap, v = .slice (some ⟨g, 0, none⟩) n cap ∧ v' = .slice (some ⟨g, 0, none⟩) (n + m) cap) ∨ (∃ cap, v' = .slice (some ⟨w.heap.size, 0, none⟩) (n + m) cap ∧ w.grownBy w' none)) := by
  subst hsize
  have hmw : IntKind.i64.wrap (m : Int) = (m : Int) := IntWalk.i64_in _ ⟨by omega, by omega⟩
  have hneg : ¬ ((m : Int) < 0) := by omega
  have hbig : ¬ (281474976710656 < (m : Int) * i.bytes) := by omega
  have hzl : (Builtin.zeroCells z.cells m).toList.length = m * i.size := by rw [Array.length_toList, size_zeroCells, hzs]
  have hmz : ¬ (m = 0 ∨ i.size = 0) := by omega
  have hmz' : ¬ (m * i.size = 0) := by
    intro e0; rcases Nat.mul_eq_zero.1 e0 with h | h <;> omega
  have hlen : (xs ++ (Builtin.zeroCells z.cells m).toList).length = (n + m) * i.size := by rw [List.length_append, hown.1, hzl, Nat.add_mul]
  have hsmall : n + m ≤ 9223372036854775807 := by simp only [maxLen] at h63; omega
  have grown : ∀ (old : Nat), old < n + m → ∀ (row : Option Nat),
      (w.drew.alloc (.cells ((xs ++ (Builtin.zeroCells z.cells m).toList).toArray ++ Builtin.zeroCells z.cells (grownCap w (n + m) old e - (n + m))) e)).ownsRow base e i.size
        (.slice (some ⟨w.heap.size, 0, none⟩) (n + m) (grownCap w (n + m) old e)) (n + m) (xs ++ (Builtin.zeroCells z.cells m).toList) ∧
      w.grownBy (w.drew.alloc (.cells ((xs ++ (Builtin.zeroCells z.cells m).toList).toArray ++ Builtin.zeroCells z.cells (grownCap w (n + m) old e - (n + m))) e)) row := by
    intro old ho row
    have hge := grownCap_ge w (n + m) old e
    have hcm : grownCap w (n + m) old e ≤ maxLen := grownCap_le_maxLen w (n + m) old e h63
    refine ⟨⟨hlen, .inr ⟨w.heap.size, _, _, rfl, hbase, heap_alloc_new w.drew _, hge, hcm, ?_, ?_⟩⟩, ⟨rfl, rfl, rfl, by simp, fun k hk _ => Below.heap_alloc w.drew _ k hk⟩⟩
    · simp only [Array.size_append, List.size_toArray, size_zeroCells, hzs, hlen, ← Nat.add_mul]
      congr 1
      omega
    · simp only [Array.toList_append]
      rw [← hlen]
      exact List.take_left
  rcases hown.2 with ⟨rfl, rfl⟩ | ⟨g, cap, cur, rfl, hbg, hg, hnc, hcm, hcs, htake⟩
  · have hx : xs = [] := List.eq_nil_of_length_eq_zero (by simpa using hown.1)
    subst hx
    have hn : ¬ (m ≤ 0) := by omega
    have hf := hfit 0 (by omega)
    simp only [Nat.zero_add] at hf
    have hf' : ¬ (281474976710656 < Builtin.nextslicecap m 0 * i.bytes) := by omega
    have hm63 : ¬ (9223372036854775807 < (m : Int)) := by omega
    have hgr := grown 0 (by omega) (Value.ownBlock (.slice none 0 0))
    have hgr2 := (grown 0 (by omega) none).2
    simp only [Nat.zero_add, List.nil_append] at hgr hgr2 ⊢
    refine ⟨_, _, ?_, hgr.1, hgr.2, .inr ⟨_, rfl, hgr2⟩⟩
    have hne0 : ¬ m = 0 := by omega
    have hns : ¬ i.size = 0 := by omega
    simp [Builtin.append_, run_underlying ht, run_underlying hti, sizeOf, typeInfo, zeroValue, hi, hz, asInt, asIntOf, hmw, hneg, hbig, hf', Question.forced, Builtin.firstCells, newRow, grownCap, hne0, hm63]
    intro h0; exact absurd h0 hmz'
  · have hne0 : ¬ m = 0 := by omega
    have hns : ¬ i.size = 0 := by omega
    by_cases hroom : n + m ≤ cap
    · have hfitc : n * i.size + (Builtin.zeroCells z.cells m).toList.length ≤ cur.size := by rw [hzl, hcs, ← Nat.add_mul]; exact Nat.mul_le_mul_right _ hroom
      have hst := run_storeCells_at P g (n * i.size) e (Builtin.zeroCells z.cells m).toList 0 cur w hg (by simpa using hfitc) h1
      simp only [Nat.add_zero] at hst
      have hr : (Builtin.append_ #[t, ti] ty #[.slice (some ⟨g, 0, none⟩) n cap, .int .i64 m]).run P w = .ok (.slice (some ⟨g, 0, none⟩) (n + m) cap)
          (w.setRow g (cur.toList.take (n * i.size) ++ (Builtin.zeroCells z.cells m).toList ++ cur.toList.drop (n * i.size + (Builtin.zeroCells z.cells m).toList.length)).toArray) := by
        simp [Builtin.append_, run_underlying ht, run_underlying hti, sizeOf, typeInfo, zeroValue, hi, hz, asInt, asIntOf, hmw, hneg, hbig, hroom, Addr.add_lit]
        rw [if_neg hmz', hst]
        simp
      refine ⟨_, _, hr, ⟨hlen, .inr ⟨g, cap, _, rfl, hbg, setRow_heap w g cur _ e _ hg, hroom, hcm, ?_, ?_⟩⟩, ⟨rfl, rfl, rfl, by simp, fun k _ hk => setRow_other w g k _ (fun e => hk (by simp [Value.ownBlock, e]))⟩, .inl ⟨g, cap, rfl, rfl⟩⟩
      · simp only [List.size_toArray, List.length_append, List.length_take, List.length_drop, Array.length_toList] at hfitc ⊢
        omega
      · rw [htake, ← hlen]
        exact List.take_left
    · have holds : ∀ j u, xs[j]? = some u → w.cell? ((⟨g, 0, none⟩ : Addr).add j) = some u := hown.cells (g := g) rfl
      have hold := run_firstCells_some (P := P) w.drew i.size n ⟨g, 0, none⟩ n cap xs hown.1 (by simpa using holds)
      have hf := hfit cap (by omega)
      have hf' : ¬ (281474976710656 < Builtin.nextslicecap (n + m) cap * i.bytes) := by omega
      have hm63 : ¬ (9223372036854775807 < (n : Int) + (m : Int)) := by omega
      refine ⟨_, _, ?_, (grown cap (by omega) (some g)).1, (grown cap (by omega) (some g)).2, .inr ⟨_, rfl, (grown cap (by omega) none).2⟩⟩
      simp [Builtin.append_, run_underlying ht, run_underlying hti, sizeOf, typeInfo, zeroValue, hi, hz, asInt, asIntOf, hmw, hneg, hbig, hroom, hf', Question.forced, hold, newRow, grownCap, hm63]
      rw [if_neg hmz']
      congr 3
      apply Array.ext'
      simp [List.append_assoc]
end
end Go.Proofs.Ytmllcfkgkkbkpaa
/-
  A row of 75 temporaries, taken apart.
-/
namespace Go.Proofs.Ytmllcfkgkkbkpaa
open Go
set_option maxRecDepth 100000 in
theorem array75 (T : Array Value) (h : T.size = 75) : ∃ v0 v1 v2 v3 v4 v5 v6 v7 v8 v9 v10 v11 v12 v13 v14 v15 v16 v17 v18 v19 v20 v21 v22 v23 v24 v25 v26 v27 v28 v29 v30 v31 v32 v33 v34 v35 v36 v37 v38 v39 v40 v41 v42 v43 v44 v45 v46 v47 v48 v49 v50 v51 v52 v53 v54 v55 v56 v57 v58 v59 v60 v61 v62 v63 v64 v65 v66 v67 v68 v69 v70 v71 v72 v73 v74, T = #[v0, v1, v2, v3, v4, v5, v6, v7, v8, v9, v10, v11, v12, v13, v14, v15, v16, v17, v18, v19, v20, v21, v22, v23, v24, v25, v26, v27, v28, v29, v30, v31, v32, v33, v34, v35, v36, v37, v38, v39, v40, v41, v42, v43, v44, v45, v46, v47, v48, v49, v50, v51, v52, v53, v54, v55, v56, v57, v58, v59, v60, v61, v62, v63, v64, v65, v66, v67, v68, v69, v70, v71, v72, v73, v74] := by
  obtain ⟨l⟩ := T
  rcases l with _ | ⟨v0, l⟩
  · simp at h
  rcases l with _ | ⟨v1, l⟩
  · simp at h
  rcases l with _ | ⟨v2, l⟩
  · simp at h
  rcases l with _ | ⟨v3, l⟩
  · simp at h
  rcases l with _ | ⟨v4, l⟩
  · simp at h
  rcases l with _ | ⟨v5, l⟩
  · simp at h
  rcases l with _ | ⟨v6, l⟩
  · simp at h
  rcases l with _ | ⟨v7, l⟩
  · simp at h
  rcases l with _ | ⟨v8, l⟩
  · simp at h
  rcases l with _ | ⟨v9, l⟩
  · simp at h
  rcases l with _ | ⟨v10, l⟩
  · simp at h
  rcases l with _ | ⟨v11, l⟩
  · simp at h
  rcases l with _ | ⟨v12, l⟩
  · simp at h
  rcases l with _ | ⟨v13, l⟩
  · simp at h
  rcases l with _ | ⟨v14, l⟩
  · simp at h
  rcases l with _ | ⟨v15, l⟩
  · simp at h
  rcases l with _ | ⟨v16, l⟩
  · simp at h
  rcases l with _ | ⟨v17, l⟩
  · simp at h
  rcases l with _ | ⟨v18, l⟩
  · simp at h
  rcases l with _ | ⟨v19, l⟩
  · simp at h
  rcases l with _ | ⟨v20, l⟩
  · simp at h
  rcases l with _ | ⟨v21, l⟩
  · simp at h
  rcases l with _ | ⟨v22, l⟩
  · simp at h
  rcases l with _ | ⟨v23, l⟩
  · simp at h
  rcases l with _ | ⟨v24, l⟩
  · simp at h
  rcases l with _ | ⟨v25, l⟩
  · simp at h
  rcases l with _ | ⟨v26, l⟩
  · simp at h
  rcases l with _ | ⟨v27, l⟩
  · simp at h
  rcases l with _ | ⟨v28, l⟩
  · simp at h
  rcases l with _ | ⟨v29, l⟩
  · simp at h
  rcases l with _ | ⟨v30, l⟩
  · simp at h
  rcases l with _ | ⟨v31, l⟩
  · simp at h
  rcases l with _ | ⟨v32, l⟩
  · simp at h
  rcases l with _ | ⟨v33, l⟩
  · simp at h
  rcases l with _ | ⟨v34, l⟩
  · simp at h
  rcases l with _ | ⟨v35, l⟩
  · simp at h
  rcases l with _ | ⟨v36, l⟩
  · simp at h
  rcases l with _ | ⟨v37, l⟩
  · simp at h
  rcases l with _ | ⟨v38, l⟩
  · simp at h
  rcases l with _ | ⟨v39, l⟩
  · simp at h
  rcases l with _ | ⟨v40, l⟩
  · simp at h
  rcases l with _ | ⟨v41, l⟩
  · simp at h
  rcases l with _ | ⟨v42, l⟩
  · simp at h
  rcases l with _ | ⟨v43, l⟩
  · simp at h
  rcases l with _ | ⟨v44, l⟩
  · simp at h
  rcases l with _ | ⟨v45, l⟩
  · simp at h
  rcases l with _ | ⟨v46, l⟩
  · simp at h
  rcases l with _ | ⟨v47, l⟩
  · simp at h
  rcases l with _ | ⟨v48, l⟩
  · simp at h
  rcases l with _ | ⟨v49, l⟩
  · simp at h
  rcases l with _ | ⟨v50, l⟩
  · simp at h
  rcases l with _ | ⟨v51, l⟩
  · simp at h
  rcases l with _ | ⟨v52, l⟩
  · simp at h
  rcases l with _ | ⟨v53, l⟩
  · simp at h
  rcases l with _ | ⟨v54, l⟩
  · simp at h
  rcases l with _ | ⟨v55, l⟩
  · simp at h
  rcases l with _ | ⟨v56, l⟩
  · simp at h
  rcases l with _ | ⟨v57, l⟩
  · simp at h
  rcases l with _ | ⟨v58, l⟩
  · simp at h
  rcases l with _ | ⟨v59, l⟩
  · simp at h
  rcases l with _ | ⟨v60, l⟩
  · simp at h
  rcases l with _ | ⟨v61, l⟩
  · simp at h
  rcases l with _ | ⟨v62, l⟩
  · simp at h
  rcases l with _ | ⟨v63, l⟩
  · simp at h
  rcases l with _ | ⟨v64, l⟩
  · simp at h
  rcases l with _ | ⟨v65, l⟩
  · simp at h
  rcases l with _ | ⟨v66, l⟩
  · simp at h
  rcases l with _ | ⟨v67, l⟩
  · simp at h
  rcases l with _ | ⟨v68, l⟩
  · simp at h
  rcases l with _ | ⟨v69, l⟩
  · simp at h
  rcases l with _ | ⟨v70, l⟩
  · simp at h
  rcases l with _ | ⟨v71, l⟩
  · simp at h
  rcases l with _ | ⟨v72, l⟩
  · simp at h
  rcases l with _ | ⟨v73, l⟩
  · simp at h
  rcases l with _ | ⟨v74, l⟩
  · simp at h
  rcases l with _ | ⟨v, l⟩
  · exact ⟨v0, v1, v2, v3, v4, v5, v6, v7, v8, v9, v10, v11, v12, v13, v14, v15, v16, v17, v18, v19, v20, v21, v22, v23, v24, v25, v26, v27, v28, v29, v30, v31, v32, v33, v34, v35, v36, v37, v38, v39, v40, v41, v42, v43, v44, v45, v46, v47, v48, v49, v50, v51, v52, v53, v54, v55, v56, v57, v58, v59, v60, v61, v62, v63, v64, v65, v66, v67, v68, v69, v70, v71, v72, v73, v74, rfl⟩
  · simp at h

end Go.Proofs.Ytmllcfkgkkbkpaa
/-
  ROWS OF ints, lone.
-/
namespace Go.Proofs.Ytmllcfkgkkbkpaa
open Go.RowKit
/-- Cells of one value each stand at the address (whatever it is, where there are none). -/
def InV (w : World) (p : Option Addr) (xs : List Value) : Prop :=
  0 < xs.length → ∃ b o, p = some ⟨b, o, none⟩ ∧ ∀ i, (h : i < xs.length) → w.cell? ⟨b, o + i, none⟩ = some xs[i]
theorem InV.at {w : World} {p : Option Addr} {xs : List Value} (h : InV w p xs) {k : Nat} (hk : k < xs.length) :
    ∃ b o, p = some ⟨b, o, none⟩ ∧ ∀ i, (h : i < xs.length) → w.cell? ⟨b, o + i, none⟩ = some xs[i] := h (by omega)
theorem InV.keep {w w' : World} {p : Option Addr} {xs : List Value} (h : InV w p xs) (hb : ∀ a, p = some a → 0 < xs.length → w'.heap[a.block]? = w.heap[a.block]?) : InV w' p xs := by
  intro h0
  obtain ⟨b, o, rfl, hc⟩ := h h0
  refine ⟨b, o, rfl, fun i hi => (World.cell?_of_block ?_).trans (hc i hi)⟩
  exact hb ⟨b, o, none⟩ rfl h0
theorem InV.low {w : World} {p : Option Addr} {xs : List Value} (h : InV w p xs) : ∀ a, p = some a → 0 < xs.length → a.block < w.heap.size := by
  intro a ha h0
  obtain ⟨b, o, rfl, hc⟩ := h h0
  cases ha
  exact World.block_lt_of_cell? w _ (hc 0 h0)
theorem InV.below {w w' : World} {p : Option Addr} {xs : List Value} (h : InV w p xs) (hb : Below w.heap.size w w') : InV w' p xs :=
  h.keep fun a ha h0 => hb.block _ (h.low a ha h0)
theorem InV.re {w : World} {p : Option Addr} {xs : List Value} (h : InV w p xs) (t : Nat → Question → Nat) (d : Nat) : InV (w.re t d) p xs := h
theorem InV.drewN {w : World} {p : Option Addr} {xs : List Value} (h : InV w p xs) (n : Nat) : InV (w.drewN n) p xs := h
theorem InV.lit (w : World) (xs : List Value) (c : Array Value) (e : TypeId) (fr : Nat × Nat) (h : c.toList = xs) : InV (w.alloc (.cells c e fr)) (some ⟨w.heap.size, 0, none⟩) xs := by
  subst h
  intro _
  refine ⟨w.heap.size, 0, rfl, fun i hi => ?_⟩
  rw [cell_of_row _ _ _ _ _ _ (heap_alloc_new w (.cells c e fr)), Nat.zero_add, ← Array.getElem?_toList, List.getElem?_eq_getElem hi]
theorem owns_shapeV {w : World} {base e n : Nat} {v : Value} {xs : List Value} (h : w.ownsRow base e 1 v n xs) :
    ∃ p c, v = .slice p n c ∧ n ≤ c ∧ c ≤ maxLen ∧ InV w p xs ∧ (∀ a, p = some a → base ≤ a.block ∧ a.block < w.heap.size ∧ a.off = 0 ∧ a.spot = none) := by
  have hlt := h.lt
  have hl : xs.length = n := by have := h.1; omega
  rcases h.2 with ⟨rfl, hn⟩ | ⟨g, cap, cur, rfl, hb, hg, hnc, hcm, hcs, ht⟩
  · refine ⟨none, 0, by rw [hn], by omega, by unfold maxLen; omega, fun h0 => by omega, fun a ha => by cases ha⟩
  · refine ⟨some ⟨g, 0, none⟩, cap, rfl, hnc, hcm, fun h0 => ⟨g, 0, rfl, fun i hi => ?_⟩, fun a ha => ?_⟩
    · have := h.cellAt (g := g) (cap := cap) i (by omega)
      rw [Nat.zero_add, this, List.getElem?_eq_getElem hi]
    · obtain rfl := Option.some.inj ha
      exact ⟨hb, (hlt g rfl).2, rfl, rfl⟩
theorem srcV {w : World} {p : Option Addr} {xs : List Value} {c : Nat} {t e : TypeId} (ht : Try.prog.underlying t = some (.slice e)) (h : InV w p xs) (h1 : ∀ u ∈ xs, u.oneCell' = true) : Src Try.prog 1 t (.slice p xs.length c) xs.length xs w := by
  by_cases h0 : 0 < xs.length
  · obtain ⟨b, o, rfl, hc⟩ := h h0
    refine Src.ofSlice w ht ⟨b, o, none⟩ xs.length c xs (by simp) (fun j u hu => ?_) h1
    obtain ⟨hj, rfl⟩ := List.getElem?_eq_some_iff.1 hu
    rw [Go.WideShapes.add_plain]; exact hc j hj
  · obtain rfl : xs = [] := List.eq_nil_of_length_eq_zero (by omega)
    cases p with
    | none => exact Src.ofNil w ht c
    | some a => exact Src.ofSlice w ht a 0 c [] rfl (fun j u hu => by simp at hu) (fun u hu => by cases hu)
/-- The values of ints. -/
def iv (l : List Int) : List Value := l.map fun x => .int .i64 x
theorem iv_length (l : List Int) : (iv l).length = l.length := by simp [iv]
theorem iv_append (l m : List Int) : iv (l ++ m) = iv l ++ iv m := by simp [iv]
theorem iv_one (l : List Int) : ∀ u ∈ iv l, u.oneCell' = true := by
  intro u hu; obtain ⟨b, _, rfl⟩ := List.mem_map.1 hu; rfl
theorem iv_inj : ∀ {l m : List Int}, iv l = iv m → l = m
  | [], [], _ => rfl
  | [], _ :: _, h => by simp [iv] at h
  | _ :: _, [], h => by simp [iv] at h
  | a :: l, b :: m, h => by
    simp only [iv, List.map_cons, List.cons.injEq, Value.int.injEq, true_and] at h
    rw [h.1, iv_inj (l := l) (m := m) h.2]
/-- The ints l stand at p. -/
def InI (w : World) (p : Option Addr) (l : List Int) : Prop := InV w p (iv l)
/-- A row of the call's own. -/
def OwnI (w : World) (base : Nat) (v : Value) (l : List Int) : Prop := w.ownsRow base 3 1 v l.length (iv l)
theorem infoI : (Try.prog.info? 3).map (fun i => (i.zero, i.size, i.bytes)) = some (some (.int .i64 0), 1, 8) := by kernel_rfl
theorem InI.at {w : World} {p : Option Addr} {l : List Int} (h : InI w p l) {k : Nat} (hk : k < l.length) : ∃ b o, p = some ⟨b, o, none⟩ ∧ w.cell? ⟨b, o + k, none⟩ = some (.int .i64 l[k]) := by
  obtain ⟨b, o, e, hc⟩ := InV.at h (k := k) (by rw [iv_length]; exact hk)
  refine ⟨b, o, e, (hc k (by rw [iv_length]; exact hk)).trans (by simp only [iv, List.getElem_map])⟩
theorem InI.below {w w' : World} {p : Option Addr} {l : List Int} (h : InI w p l) (hb : Below w.heap.size w w') : InI w' p l := InV.below h hb
theorem InI.re {w : World} {p : Option Addr} {l : List Int} (h : InI w p l) (t : Nat → Question → Nat) (d : Nat) : InI (w.re t d) p l := h
theorem InI.drewN {w : World} {p : Option Addr} {l : List Int} (h : InI w p l) (n : Nat) : InI (w.drewN n) p l := h
theorem InI.alloc {w : World} {p : Option Addr} {l : List Int} (h : InI w p l) (o : Obj) : InI (w.alloc o) p l := h.below ((Below.refl _ w).alloc (Nat.le_refl _) o)
theorem InI.one (w : World) (x : Int) : InI (w.alloc (.cells #[.int .i64 x] 3)) (some ⟨w.heap.size, 0, none⟩) [x] := InV.lit w _ _ _ _ rfl
theorem InI.none (w : World) (p : Option Addr) : InI w p [] := fun h => absurd h (by simp [iv])
theorem OwnI.nil (w : World) (base : Nat) : OwnI w base (.slice none 0 0) [] := World.ownsRow_nil _ _ _ _
theorem OwnI.made (w : World) : OwnI (w.alloc (.cells #[] 3)) w.heap.size (.slice (some ⟨w.heap.size, 0, Option.none⟩) 0 0) [] :=
  World.ownsRow_made w #[] 0 (Nat.le_refl _) (by unfold maxLen; omega) rfl
theorem OwnI.lit (w : World) (l : List Int) (c : Array Value) (n : Nat) (hn : l.length = n) (hm : n ≤ 1000000000000) (h : c.toList = iv l) : OwnI (w.alloc (.cells c 3)) w.heap.size (.slice (some ⟨w.heap.size, 0, Option.none⟩) n n) l := by
  have hs : c.size = n := by rw [← Array.length_toList, h, iv_length, hn]
  have := World.ownsRow_lit (e := 3) (size := 1) w c n (Nat.le_refl _) (by unfold maxLen; omega) (by rw [hs]; omega)
  unfold OwnI; rw [hn, ← h]
  exact this
theorem OwnI.below {w w' : World} {base : Nat} {v : Value} {l : List Int} (h : OwnI w base v l) (hb : Below w.heap.size w w') : OwnI w' base v l := ownsRow_below h hb
theorem OwnI.mono {w : World} {base base' : Nat} {v : Value} {l : List Int} (h : OwnI w base v l) (hb : base' ≤ base) : OwnI w base' v l := ownsRow_mono h hb
theorem OwnI.alloc {w : World} {base : Nat} {v : Value} {l : List Int} (h : OwnI w base v l) (o : Obj) : OwnI (w.alloc o) base v l := World.ownsRow.alloc h o
theorem OwnI.drewN {w : World} {base : Nat} {v : Value} {l : List Int} (h : OwnI w base v l) (n : Nat) : OwnI (w.drewN n) base v l := h
theorem OwnI.re {w : World} {base : Nat} {v : Value} {l : List Int} (h : OwnI w base v l) (t : Nat → Question → Nat) (d : Nat) : OwnI (w.re t d) base v l := h
theorem OwnI.shape {w : World} {base n : Nat} {v : Value} {l : List Int} (h : OwnI w base v l) (hn : l.length = n) :
    ∃ p c, v = .slice p n c ∧ n ≤ c ∧ c ≤ maxLen ∧ InI w p l ∧ (∀ a, p = some a → base ≤ a.block ∧ a.block < w.heap.size ∧ a.off = 0 ∧ a.spot = Option.none) := by
  subst hn
  obtain ⟨p, c, h1, h2, h3, h4, h5⟩ := owns_shapeV h
  exact ⟨p, c, h1, h2, h3, h4, h5⟩
theorem ownI_grown {w w1 w' : World} {B : Nat} {v : Value} {l : List Int} (hB : Below B w w1) (hs : B ≤ w1.heap.size) (hown : OwnI w1 B v l) (hg : w1.grownBy w' v.ownBlock) : Below B w w' :=
  hB.grown hg hs (fun k e => (hown.lt k e).1)
/-- append of ints onto ints of the call's own -/
theorem wpList_appendI {w : World} {ops : Array Oper} {rest : List Oper} {o : Oper} {a : Act} {Q : Exit → Act → World → Prop} (hgd : o.guard = Option.none) (s x : Operand)
    (ho : o.op = .call { callee := .builtin .append, args := #[s, x], argTypes := #[23, 23] })
    (base : Nat) (v : Value) (l : List Int) (hv : a.eval s = v) (hown : OwnI w base v l)
    (p : Option Addr) (m c : Nat) (l2 : List Int) (hm : l2.length = m) (hx : a.eval x = .slice p m c) (hin : InI w p l2)
    (hr : l.length + m ≤ 20000000000000) (hbase : base ≤ w.heap.size)
    (h : ∀ v' w', OwnI w' base v' (l ++ l2) → w.grownBy w' v.ownBlock → (v' = .slice Option.none 0 0 ↔ v = .slice Option.none 0 0 ∧ m = 0) → wpList Try.prog ops Q rest (a.put o.dst v') w') : wpList Try.prog ops Q (o :: rest) a w := by
  subst hm
  refine wpList_append_fit w hgd s x 23 23 ho base 3 (.int .i64 0) 1 8 Try.underlying23 infoI rfl v l.length (iv l) hv hown _ l2.length (iv l2) hx (by have := srcV (c := c) Try.underlying23 hin (iv_one l2); rw [iv_length] at this; exact this) (by unfold maxLen; omega) (by omega) hbase ?_
  intro v' w' ho' hg hn
  exact h v' w' (by unfold OwnI; rw [List.length_append, iv_append]; exact ho') hg hn
end Go.Proofs.Ytmllcfkgkkbkpaa
/-
  WHOSE TURN IT IS: plain.
-/
namespace Go.Proofs.Ytmllcfkgkkbkpaa
/-- The places below j that have things left. -/
def openTo (left : List Int) (j : Nat) : List Int := ((List.range j).filter fun i => decide (0 < left.getD i 0)).map Int.ofNat
def turnT (left : List Int) (pick : Int) : Int :=
  let o := openTo left left.length
  if o.length = 0 then -1 else o.getD ((max pick 0) % o.length).toNat 0
theorem openTo_zero (left : List Int) : openTo left 0 = [] := rfl
theorem openTo_succ (left : List Int) (j : Nat) : openTo left (j + 1) = openTo left j ++ (if 0 < left.getD j 0 then [(j : Int)] else []) := by
  unfold openTo
  rw [List.range_succ, List.filter_append, List.map_append]
  congr 1
  by_cases h : 0 < left.getD j 0
  · rw [if_pos h, List.filter_cons, if_pos (by simpa using h)]
    rfl
  · rw [if_neg h, List.filter_cons, if_neg (by simpa using h)]
    rfl
theorem openTo_len (left : List Int) (j : Nat) : (openTo left j).length ≤ j := by
  unfold openTo
  rw [List.length_map]
  exact Nat.le_trans (List.length_filter_le _ _) (by simp)
theorem mem_openTo {left : List Int} {j : Nat} {x : Int} : x ∈ openTo left j ↔ ∃ i : Nat, x = i ∧ i < j ∧ 0 < left.getD i 0 := by
  unfold openTo
  simp only [List.mem_map, List.mem_filter, List.mem_range, decide_eq_true_eq]
  constructor
  · rintro ⟨i, ⟨h1, h2⟩, rfl⟩
    exact ⟨i, rfl, h1, h2⟩
  · rintro ⟨i, rfl, h1, h2⟩
    exact ⟨i, ⟨h1, h2⟩, rfl⟩
/-- A turn is none, or a place that has things left. -/
theorem turnT_cases (left : List Int) (pick : Int) : (turnT left pick = -1 ∧ ∀ i, i < left.length → left.getD i 0 ≤ 0) ∨ ∃ i : Nat, turnT left pick = i ∧ i < left.length ∧ 0 < left.getD i 0 := by
  unfold turnT
  by_cases h : (openTo left left.length).length = 0
  · left
    refine ⟨by simp [h], fun i hi => ?_⟩
    by_cases hp : 0 < left.getD i 0
    · have : (i : Int) ∈ openTo left left.length := mem_openTo.2 ⟨i, rfl, hi, hp⟩
      rw [List.eq_nil_of_length_eq_zero h] at this
      cases this
    · omega
  · right
    simp only [h, if_false]
    have h1 : 0 < ((openTo left left.length).length : Int) := by omega
    have h2 := Int.emod_nonneg (max pick 0) (by omega : ((openTo left left.length).length : Int) ≠ 0)
    have h3 := Int.emod_lt_of_pos (max pick 0) h1
    have h4 : ((max pick 0) % ((openTo left left.length).length : Int)).toNat < (openTo left left.length).length := by omega
    have hm : (openTo left left.length).getD ((max pick 0) % ((openTo left left.length).length : Int)).toNat 0 ∈ openTo left left.length := by
      rw [List.getD_eq_getElem?_getD, List.getElem?_eq_getElem h4]
      exact List.getElem_mem h4
    obtain ⟨i, h5, h6, h7⟩ := mem_openTo.1 hm
    exact ⟨i, h5, h6, h7⟩
end Go.Proofs.Ytmllcfkgkkbkpaa
/-
  turn: whose turn it is.
-/
namespace Go.Proofs.Ytmllcfkgkkbkpaa
open Go.RowKit
theorem openTo_step {left : List Int} {k : Nat} (hk : k < left.length) {out : List Int} (h : out = openTo left k) : (0 < left[k] → openTo left (k + 1) = out ++ [(k : Int)]) ∧ (¬ 0 < left[k] → openTo left (k + 1) = out) := by
  have e : left.getD k 0 = left[k] := by rw [List.getD_eq_getElem?_getD, List.getElem?_eq_getElem hk]; rfl
  constructor
  · intro hp
    rw [openTo_succ, e, if_pos hp, h]
  · intro hp
    rw [openTo_succ, e, if_neg hp, h, List.append_nil]
theorem turnT_none {left : List Int} (h : (openTo left left.length).length = 0) (pick : Int) : turnT left pick = -1 := by
  unfold turnT
  simp [h]
theorem turnT_some {left out : List Int} {n : Nat} (ho : out = openTo left n) (hn : left.length = n) {m : Nat} (hm : out.length = m) (h : ¬ m = 0) (pick : Int) :
    ∃ j : Nat, j < m ∧ (∀ h : j < out.length, turnT left pick = out[j]) ∧ (pick < 0 → j = 0) ∧ (¬ pick < 0 → Int.tmod pick m = j) := by
  subst ho hn
  have h1 : 0 < (m : Int) := by omega
  have h3 := Int.emod_lt_of_pos (max pick 0) h1
  have h4 := Int.emod_nonneg (max pick 0) (by omega : (m : Int) ≠ 0)
  refine ⟨((max pick 0) % m).toNat, by omega, fun h2 => ?_, fun hp => ?_, fun hp => ?_⟩
  · unfold turnT
    simp only [hm, h, if_false]
    rw [List.getD_eq_getElem?_getD, List.getElem?_eq_getElem h2]
    rfl
  · rw [show max pick 0 = 0 by omega]; simp
  · rw [show max pick 0 = pick by omega] at h3 h4 ⊢
    rw [Int.tmod_eq_emod_of_nonneg (by omega)]
    omega
set_option maxRecDepth 100000 in
set_option maxHeartbeats 4000000 in
theorem turn_any {p : Option Addr} {left : List Int} {n c : Nat} {pick : Int} (w : World) (hin : InI w p left) (hn : left.length = n) (hs : n < 1000000) :
    Calls Try.prog 27 #[.slice p n c, .int .i64 pick] w fun e w' => e = .returned (.int .i64 (turnT left pick)) ∧ Below w.heap.size w w' := by
  have HN := Lib.hid hn
  clear hn
  go_enter Try.func27, Try.ntmps27
  go_wp2
  go_loopw [5, 10] (fun v i wr => ∃ (k : Nat) (out : List Int), k ≤ n ∧ i = .int .i64 k ∧ OwnI wr w.heap.size v out ∧ out.length ≤ k ∧ out = openTo left k ∧ Below w.heap.size w wr) (fun _ i _ => n + 1 - (intOf i).toNat)
  case atStart => exact ⟨0, [], by omega, rfl, OwnI.nil _ _, by simp, rfl, Below.refl _ _⟩
  case round =>
    obtain ⟨k, out, hk, rfl, hown, hol, ho, hb⟩ := hrel
    have hbs := hb.size
    by_cases hlt : k < n
    · have hl : k < left.length := by rw [HN.out]; exact hlt
      have HS := Lib.hid (openTo_step hl ho)
      have HO := Lib.hid ho
      clear ho
      obtain ⟨b, o, rfl, hc⟩ := (hin.below hb).at hl
      generalize hx : left[k] = x at hc HS
      clear hx
      by_cases hp : 0 < x
      · have hin1 := InI.one wr (k : Int)
        have hown1 := hown.alloc (.cells #[.int .i64 (k : Int)] 3)
        go_wp2_with (at_builtin; refine wpList_appendI rfl _ _ rfl w.heap.size _ _ rfl hown1 _ _ _ _ rfl rfl hin1 (by simp; omega) (by simp; omega) ?_; intro v2 w2 hown2 hgrow2 _)
        go_roundw
        case rel => exact ⟨k + 1, out ++ [(k : Int)], by omega, by go_num, hown2, by simp; omega, (HS.out.1 hp).symm, ownI_grown (hb.alloc hbs _) (by simp; omega) hown1 hgrow2⟩
        case measure => simp [intOf]; omega
      · go_wp2
        go_roundw
        case rel => exact ⟨k + 1, out, by omega, by go_num, hown, by omega, (HS.out.2 hp).symm, hb⟩
        case measure => simp [intOf]; omega
    · obtain rfl : k = n := by omega
      obtain ⟨m, hm⟩ : ∃ m, out.length = m := ⟨_, rfl⟩
      obtain ⟨p2, c2, rfl, h1, h2, hin2, _⟩ := hown.shape hm
      by_cases h0 : m = 0
      · have HT := Lib.hid (turnT_none (left := left) (by rw [HN.out, ← ho, hm, h0]) pick)
        subst h0
        have HO := Lib.hid ho
        have HM := Lib.hid hm
        clear ho hm
        go_wp2
        go_ret
        exact ⟨by rw [HT.out]; rfl, hb⟩
      · obtain ⟨j, hj, h4, hj2⟩ := turnT_some ho HN.out hm h0 pick
        have h3 : j < out.length := by omega
        obtain ⟨b, o, rfl, hc⟩ := hin2.at h3
        have HT := Lib.hid (h4 h3)
        have HO := Lib.hid ho
        have HM := Lib.hid hm
        clear ho hm h4
        generalize out[j] = y at hc HT
        have hm1 : (0 : Int) < (m : Int) := by omega
        by_cases hp : pick < 0
        · obtain rfl := hj2.1 hp
          clear hj2
          rw [Nat.add_zero] at hc
          go_wp2_with fail
          go_ret
          exact ⟨by rw [HT.out]; rfl, hb⟩
        · have hq := hj2.2 hp
          clear hj2
          go_wp2_with fail
          refine bodyPost_ret (v := .int .i64 y) (by simp [results, go_sem, Try.f27]) rfl ⟨by rw [HT.out], hb⟩
end Go.Proofs.Ytmllcfkgkkbkpaa
/-
  THE THINGS OF A STREAM: plain.
-/
namespace Go.Proofs.Ytmllcfkgkkbkpaa
section
variable {α : Type}
def lens (rems : List (List α)) : List Int := rems.map fun l => (l.length : Int)
def total (rems : List (List α)) : Nat := (rems.map List.length).sum
def thingsF : Nat → List (List α) → List Int → Nat → List (Nat × α)
  | 0, _, _, _ => []
  | f + 1, rems, picks, k =>
    if turnT (lens rems) (picks.getD k 0) < 0 then [] else
    match rems[(turnT (lens rems) (picks.getD k 0)).toNat]? with
    | some (v :: vs) => ((turnT (lens rems) (picks.getD k 0)).toNat, v) :: thingsF f (rems.set (turnT (lens rems) (picks.getD k 0)).toNat vs) picks (k + 1)
    | _ => []
/-- The things that are left to come, k have come. -/
def things (rems : List (List α)) (picks : List Int) (k : Nat) : List (Nat × α) := thingsF (total rems) rems picks k
theorem lens_length (rems : List (List α)) : (lens rems).length = rems.length := by simp [lens]
theorem lens_get {rems : List (List α)} {i : Nat} (h : i < rems.length) : (lens rems).getD i 0 = (rems[i].length : Int) := by
  unfold lens
  rw [List.getD_eq_getElem?_getD, List.getElem?_map, List.getElem?_eq_getElem h]
  rfl
theorem lens_set (rems : List (List α)) (i : Nat) (vs : List α) : lens (rems.set i vs) = (lens rems).set i (vs.length : Int) := by
  simp [lens, List.map_set]
theorem total_set {rems : List (List α)} {i : Nat} {v : α} {vs : List α} (h : rems[i]? = some (v :: vs)) : total rems = total (rems.set i vs) + 1 := by
  induction rems generalizing i with
  | nil => simp at h
  | cons r rems ih =>
    cases i with
    | zero =>
      simp only [List.getElem?_cons_zero, Option.some.injEq] at h
      subst h
      simp only [total, List.set_cons_zero, List.map_cons, List.sum_cons, List.length_cons]
      omega
    | succ i =>
      simp only [List.getElem?_cons_succ] at h
      have := ih h
      simp only [total, List.set_cons_succ, List.map_cons, List.sum_cons] at this ⊢
      omega
theorem total_get {rems : List (List α)} {i : Nat} {l : List α} (h : rems[i]? = some l) : l.length ≤ total rems := by
  induction rems generalizing i with
  | nil => simp at h
  | cons r rems ih =>
    cases i with
    | zero =>
      simp only [List.getElem?_cons_zero, Option.some.injEq] at h
      subst h
      simp only [total, List.map_cons, List.sum_cons]
      omega
    | succ i =>
      simp only [List.getElem?_cons_succ] at h
      have := ih h
      simp only [total, List.map_cons, List.sum_cons] at this ⊢
      omega
theorem things_end {rems : List (List α)} {picks : List Int} {k : Nat} (h : turnT (lens rems) (picks.getD k 0) = -1) : things rems picks k = [] := by
  unfold things
  cases total rems with
  | zero => rfl
  | succ f => rw [thingsF, h]; rfl
theorem things_step {rems : List (List α)} {picks : List Int} {k i : Nat} {v : α} {vs : List α} (h : turnT (lens rems) (picks.getD k 0) = i) (hr : rems[i]? = some (v :: vs)) : things rems picks k = (i, v) :: things (rems.set i vs) picks (k + 1) := by
  unfold things
  rw [total_set hr, thingsF, h, if_neg (by omega), Int.toNat_natCast, hr]
/-- Whose turn it is has something left. -/
theorem turn_left {rems : List (List α)} {pick : Int} : (turnT (lens rems) pick = -1 ∧ ∀ i, i < rems.length → ∀ l, rems[i]? = some l → l = []) ∨ ∃ i v vs, turnT (lens rems) pick = (i : Nat) ∧ i < rems.length ∧ rems[i]? = some (v :: vs) := by
  rcases turnT_cases (lens rems) pick with ⟨h, h2⟩ | ⟨i, h, h2, h3⟩
  · refine .inl ⟨h, fun i hi l hl => ?_⟩
    have := h2 i (by rw [lens_length]; exact hi)
    rw [lens_get hi] at this
    rw [List.getElem?_eq_getElem hi] at hl
    rw [Option.some.inj hl] at this
    exact List.eq_nil_of_length_eq_zero (by omega)
  · rw [lens_length] at h2
    rw [lens_get h2] at h3
    have e := List.getElem?_eq_getElem h2
    cases hl : rems[i] with
    | nil => rw [hl] at h3; simp at h3
    | cons v vs => exact .inr ⟨i, v, vs, h, h2, by rw [e, hl]⟩
theorem things_len (rems : List (List α)) (picks : List Int) : ∀ k, (things rems picks k).length = total rems := by
  generalize hn : total rems = n
  induction n generalizing rems with
  | zero => intro k; unfold things; rw [hn]; rfl
  | succ n ih =>
    intro k
    rcases turn_left (rems := rems) (pick := picks.getD k 0) with ⟨h, h2⟩ | ⟨i, v, vs, h, _, hr⟩
    · exfalso
      have : ∀ l ∈ rems, l = [] := fun l hl => by
        obtain ⟨i, hi, rfl⟩ := List.mem_iff_getElem.1 hl
        exact h2 i hi _ (List.getElem?_eq_getElem hi)
      have h0 : total rems = 0 := by
        clear hn ih h h2
        induction rems with
        | nil => rfl
        | cons r rems ih =>
          have := ih fun l hl => this l (by simp [hl])
          have h1 : r = [] := by apply_assumption; simp
          simp only [total, List.map_cons, List.sum_cons, h1, List.length_nil] at *
          omega
      omega
    · rw [things_step h hr, List.length_cons, ih _ (by have := total_set hr; omega)]
end
end Go.Proofs.Ytmllcfkgkkbkpaa
/-
  slices.Clone of ints.
-/
namespace Go.Proofs.Ytmllcfkgkkbkpaa
open Go.RowKit
set_option maxRecDepth 100000 in
set_option maxHeartbeats 4000000 in
theorem cloneI_any {p : Option Addr} {l : List Int} {n c : Nat} (w : World) (hin : InI w p l) (hn : l.length = n) (hs : n ≤ 20000000000000) :
    Calls Try.prog 21 #[.slice p n c] w fun e w' => ∃ v, e = .returned v ∧ OwnI w' w.heap.size v l ∧ Below w.heap.size w w' := by
  go_enter Try.func21, Try.ntmps21
  have q : ∀ (w : World) (a : Option Addr) (n c n' c' : Nat), (binOp .eql 23 (.slice a n c) (.slice none n' c')).run Try.prog w = .ok (.bool a.isNone) w := fun w a n c n' c' => Lib.run_eql_slice_nil w _ _ a n c n' c' Try.underlying23
  cases p with
  | none =>
    have h0 : l = [] := by
      apply Classical.byContradiction
      intro h
      obtain ⟨b, o, e, _⟩ := hin.at (k := 0) (List.length_pos_iff.2 h)
      cases e
    subst h0
    go_wp2
    go_ret
    exact ⟨_, rfl, OwnI.nil _ _, Below.refl _ _⟩
  | some a =>
    have HN := Lib.hid hn
    clear hn
    have hown := OwnI.made w
    have hin1 := hin.alloc (.cells #[] 3)
    go_wp2_with (at_builtin; refine wpList_appendI rfl _ _ rfl w.heap.size _ _ rfl hown _ _ _ _ HN.out rfl hin1 (by simp; omega) (by simp) ?_; intro v2 w2 hown2 hgrow2 _)
    go_ret
    exact ⟨_, rfl, hown2, ownI_grown ((Below.refl _ w).alloc (Nat.le_refl _) _) (by simp) hown hgrow2⟩
end Go.Proofs.Ytmllcfkgkkbkpaa
/-
  Stream of ints: it clones what it is handed.
-/
namespace Go.Proofs.Ytmllcfkgkkbkpaa
open Go.RowKit
/-- Rows of ints, in a row. -/
def InLs (w : World) (p : Option Addr) (L : List (List Int)) : Prop :=
  ∃ hs : List Value, InV w p hs ∧ hs.length = L.length ∧ ∀ (i : Nat) (l : List Int), L[i]? = some l → ∃ q c, hs[i]? = some (.slice q l.length c) ∧ InI w q l
theorem InLs.at {w : World} {p : Option Addr} {L : List (List Int)} (h : InLs w p L) {i : Nat} (hi : i < L.length) :
    ∃ b o q c, p = some ⟨b, o, none⟩ ∧ w.cell? ⟨b, o + i, none⟩ = some (.slice q L[i].length c) ∧ InI w q L[i] := by
  obtain ⟨hs, h1, h2, h3⟩ := h
  obtain ⟨b, o, e, hc⟩ := h1.at (k := i) (by omega)
  obtain ⟨q, c, h4, h5⟩ := h3 i _ (List.getElem?_eq_getElem hi)
  refine ⟨b, o, q, c, e, (hc i (by omega)).trans ?_, h5⟩
  rw [← h4, List.getElem?_eq_getElem]
theorem InLs.below {w w' : World} {p : Option Addr} {L : List (List Int)} (h : InLs w p L) (hb : Below w.heap.size w w') : InLs w' p L := by
  obtain ⟨hs, h1, h2, h3⟩ := h
  refine ⟨hs, h1.below hb, h2, fun i l hi => ?_⟩
  obtain ⟨q, c, h4, h5⟩ := h3 i l hi
  exact ⟨q, c, h4, h5.below hb⟩
theorem InLs.re {w : World} {p : Option Addr} {L : List (List Int)} (h : InLs w p L) (t : Nat → Question → Nat) (d : Nat) : InLs (w.re t d) p L := h
/-- What Stream leaves: the box of the clones' headers, the box of the picks. -/
structure StreamAt (w : World) (base base1 bo bp g : Nat) (pa : Option Addr) (pc : Nat) (L : List (List Int)) (picks : List Int) : Prop where
  own : w.cell? ⟨bo, 0, none⟩ = some (.slice (some ⟨g, 0, none⟩) L.length L.length)
  row : ∃ hs, w.ownsRow base 23 1 (.slice (some ⟨g, 0, none⟩) L.length L.length) L.length hs ∧ ∀ (i : Nat) (l : List Int), L[i]? = some l → ∃ v, hs[i]? = some v ∧ OwnI w base1 v l
  bpc : w.cell? ⟨bp, 0, none⟩ = some (.slice pa picks.length pc)
  picks : OwnI w base (.slice pa picks.length pc) picks
  lo : base ≤ bo ∧ base ≤ bp ∧ base ≤ g ∧ base ≤ base1
  hi : bo < base1 ∧ bp < base1 ∧ g < base1 ∧ base1 ≤ w.heap.size
  pa : ∀ ad, pa = some ad → ad.block < base1
/-- k clones are made. -/
structure SInv (w : World) (g bo b1 : Nat) (pa : Option Addr) (pn pc : Nat) (N : Nat) (L : List (List Int)) (picks : List Int) (k : Nat) (wr : World) : Prop where
  bel : Below w.heap.size w wr
  bo : wr.cell? ⟨bo, 0, none⟩ = some (.slice (some ⟨g, 0, none⟩) N N)
  bp : wr.cell? ⟨w.heap.size, 0, none⟩ = some (.slice pa pn pc)
  picks : OwnI wr w.heap.size (.slice pa pn pc) picks
  row : ∃ hs, wr.ownsRow w.heap.size 23 1 (.slice (some ⟨g, 0, none⟩) N N) N hs ∧ (∀ (i : Nat) (l : List Int), i < k → L[i]? = some l → ∃ v, hs[i]? = some v ∧ OwnI wr b1 v l) ∧ (∀ i, k ≤ i → i < N → hs[i]? = some (.slice none 0 0))
  size : b1 ≤ wr.heap.size
theorem SInv.below {w wr w' : World} {g bo b1 : Nat} {pa : Option Addr} {pn pc N k : Nat} {L : List (List Int)} {picks : List Int} (h : SInv w g bo b1 pa pn pc N L picks k wr) (hb : Below wr.heap.size wr w') : SInv w g bo b1 pa pn pc N L picks k w' := by
  obtain ⟨hs, h1, h2, h3⟩ := h.row
  refine ⟨h.bel.trans (hb.mono h.bel.size), (hb.cell (World.block_lt_of_cell? wr _ h.bo)).trans h.bo, (hb.cell (World.block_lt_of_cell? wr _ h.bp)).trans h.bp, h.picks.below hb, ⟨hs, ownsRow_below h1 hb, fun i l hi hl => ?_, h3⟩, Nat.le_trans h.size hb.size⟩
  obtain ⟨v, h4, h5⟩ := h2 i l hi hl
  exact ⟨v, h4, h5.below hb⟩
theorem own_other {w : World} {base e size n : Nat} {v : Value} {xs : List Value} (h : w.ownsRow base e size v n xs) {g k : Nat} {u : Value} (hg : v.ownBlock ≠ some g) : (w.setCell ⟨g, k, none⟩ u).ownsRow base e size v n xs := ownsRow_setCell_other h hg u
theorem SInv.step {w wr w' : World} {g bo b1 : Nat} {pa : Option Addr} {pn pc N k : Nat} {L : List (List Int)} {picks l : List Int} {v : Value} (h : SInv w g bo b1 pa pn pc N L picks k wr) (hb : Below wr.heap.size wr w') (hk : k < N) (hl : L[k]? = some l) (hv : OwnI w' wr.heap.size v l)
    (hg1 : g < b1) (hg2 : w.heap.size < g) (hg3 : g ≠ bo) (hpa : ∀ ad, pa = some ad → ad.block < g) : SInv w g bo b1 pa pn pc N L picks (k + 1) (w'.setCell ⟨g, k, none⟩ v) := by
  have h' := h.below hb
  obtain ⟨hs, h1, h2, h3⟩ := h'.row
  have hst := World.ownsRow.stored h1 k v
  have hle : b1 ≤ wr.heap.size := h.size
  refine ⟨h'.bel.setCell (by show w.heap.size ≤ g; omega) v, ?_, ?_, own_other h'.picks fun e => ?_, ⟨hs.set k v, hst.1, fun i l' hi hl' => ?_, fun i hi hN => ?_⟩, by simp; exact h'.size⟩
  · rw [World.cell?_setCell_other _ _ _ _ (by simp <;> omega)]; exact h'.bo
  · rw [World.cell?_setCell_other _ _ _ _ (by simp <;> omega)]; exact h'.bp
  · cases pa with
    | none => cases e
    | some ad =>
      have h4 := hpa ad rfl
      obtain ⟨a, b, c⟩ := ad
      simp only [Value.ownBlock, Option.some.injEq] at e
      simp only at h4
      omega
  · by_cases e : i = k
    · subst e
      rw [hl] at hl'
      cases hl'
      have hlen : i < hs.length := by have := h1.1; omega
      refine ⟨v, by rw [List.getElem?_set_self hlen], own_other (hv.mono h.size) fun e => ?_⟩
      have := (World.ownsRow.lt hv g e).1
      omega
    · obtain ⟨u, h4, h5⟩ := h2 i l' (by omega) hl'
      refine ⟨u, by rw [List.getElem?_set_ne (by omega)]; exact h4, own_other h5 fun e => ?_⟩
      have := (World.ownsRow.lt h5 g e).1
      omega
  · rw [List.getElem?_set_ne (by omega)]
    exact h3 i (by omega) hN
theorem infoL : (Try.prog.info? 23).map (fun i => (i.zero, i.size, i.bytes)) = some (some (.slice none 0 0), 1, 24) := by kernel_rfl
set_option maxRecDepth 100000 in
set_option maxHeartbeats 4000000 in
theorem streamI_any {pi pp : Option Addr} {L : List (List Int)} {picks : List Int} {N ci pn pc : Nat} (w : World) (hin : InLs w pi L) (hN : L.length = N) (hs : N < 1000000) (hl : ∀ l ∈ L, l.length < 1000000000000) (hp : InI w pp picks) (hpn : picks.length = pn) (hps : pn ≤ 20000000000000) :
    Calls Try.prog 19 #[.slice pi N ci, .slice pp pn pc] w fun e w' => ∃ base1 bo bp g pa pc', e = .returned (.func (.func 22) #[] #[.pointer (some ⟨bo, 0, none⟩), .pointer (some ⟨bp, 0, none⟩)]) ∧ StreamAt w' w.heap.size base1 bo bp g pa pc' L picks ∧ Below w.heap.size w w' := by
  have HN := Lib.hid hN
  have HPN := Lib.hid hpn
  clear hN
  go_enter Try.func19, Try.ntmps19
  go_wp2_with fail
  have hb0 : Below w.heap.size w (w.alloc (.cells #[.slice pp pn pc] 23)) := (Below.refl _ w).alloc (Nat.le_refl _) _
  refine (cloneI_any _ (hp.below hb0) hpn hps).mono ?_
  rintro e w1 ⟨v, rfl, hv, hb1⟩
  obtain ⟨pa, c1, rfl, _, _, _, hpa⟩ := hv.shape hpn
  simp only [World.size_alloc] at hv hb1 hpa
  have hsz1 : w.heap.size + 1 ≤ w1.heap.size := by have := hb1.size; simp only [World.size_alloc] at this; exact this
  have hbox : w1.cell? ⟨w.heap.size, 0, none⟩ = some (.slice pp pn pc) := by
    rw [hb1.cell (p := ⟨w.heap.size, 0, none⟩) (by show w.heap.size < w.heap.size + 1; omega)]
    exact (cell_of_row _ _ _ _ _ _ (heap_alloc_new w _))
  have hfz : w1.frozen? ⟨w.heap.size, 0, none⟩ = false := by
    rw [Below.frozen hb1 (p := ⟨w.heap.size, 0, none⟩) (by show w.heap.size < w.heap.size + 1; omega)]
    exact (frozen_of_row _ _ _ _ _ (heap_alloc_new w _))
  have hmk : ∀ W : World, (Instr.makeSlice 22 (.int .i64 (N : Int)) (.int .i64 (N : Int))).run Try.prog W = .ok (.slice (some ⟨W.heap.size, 0, none⟩) N N) (W.alloc (.cells (madeCells #[.slice none 0 0] N) 23)) := by
    intro W
    obtain ⟨i, hi, hz, hz1, hz2⟩ := info_parts infoL
    have := run_makeSlice (P := Try.prog) W 22 23 i (.slice none 0 0) Try.underlying22 hi hz .i64 .i64 N N (by omega) (by omega) (by rw [hz1]; omega) (by rw [hz2]; omega) (by omega)
    rw [hz1] at this
    simp only [Int.toNat_natCast, Nat.mul_one] at this
    exact this
  go_wp2_with fail
  have hrel0 : SInv w w1.heap.size (w1.heap.size + 1) (w1.heap.size + 2) pa pn c1 N L picks 0 (((w1.setCell ⟨w.heap.size, 0, none⟩ (.slice pa pn c1)).alloc (.cells (madeCells #[.slice none 0 0] N) 23)).alloc (.cells #[.slice (some ⟨w1.heap.size, 0, none⟩) N N] 22)) := by
    obtain ⟨ws, hws⟩ : ∃ ws, ws = w1.setCell ⟨w.heap.size, 0, none⟩ (.slice pa pn c1) := ⟨_, rfl⟩
    have hss : ws.heap.size = w1.heap.size := by rw [hws]; simp
    have hb2 : Below w.heap.size w ws := by
      rw [hws]
      exact (hb0.trans (hb1.mono (by simp))).setCell (by show w.heap.size ≤ w.heap.size; omega) _
    have hcs : ws.cell? ⟨w.heap.size, 0, none⟩ = some (.slice pa pn c1) := by
      rw [hws]
      exact World.cell?_setCell_same _ _ _ (by rw [hbox])
    have hps2 : OwnI ws w.heap.size (.slice pa pn c1) picks := by
      rw [hws]
      refine own_other (ownsRow_mono hv (by omega)) fun e => ?_
      have := (World.ownsRow.lt hv w.heap.size e).1
      omega
    rw [← hws, ← hss]
    have hsz : w.heap.size ≤ ws.heap.size := by omega
    refine ⟨(hb2.alloc hsz _).alloc (by simp <;> omega) _, ?_, ?_, ?_, ⟨(madeCells #[.slice none 0 0] N).toList, World.ownsRow.alloc (World.ownsRow_lit _ _ N hsz (by unfold maxLen; omega) (by rw [size_madeCells]; omega)) _, fun i l hi => absurd hi (by omega), fun i _ hi => ?_⟩, by simp⟩
    · exact cell_of_row _ _ _ _ _ _ (by
        have := heap_alloc_new (ws.alloc (.cells (madeCells #[.slice none 0 0] N) 23)) (.cells #[.slice (some ⟨ws.heap.size, 0, none⟩) N N] 22)
        rw [World.size_alloc] at this
        exact this)
    · exact cell_past (cell_past hcs _) _
    · exact (hps2.alloc _).alloc _
    · rw [toList_madeCells_one, List.getElem?_replicate, if_pos hi]
  generalize (((w1.setCell ⟨w.heap.size, 0, none⟩ (.slice pa pn c1)).alloc (.cells (madeCells #[.slice none 0 0] N) 23)).alloc (.cells #[.slice (some ⟨w1.heap.size, 0, none⟩) N N] 22)) = w2 at hrel0 ⊢
  go_loopw [15] (fun i wr => ∃ k, k ≤ N ∧ i = .int .i64 k ∧ SInv w w1.heap.size (w1.heap.size + 1) (w1.heap.size + 2) pa pn c1 N L picks k wr) (fun i _ => N + 1 - (intOf i).toNat)
  case atStart => exact ⟨0, by omega, rfl, hrel0⟩
  case round =>
    obtain ⟨k, hk, rfl, hS⟩ := hrel
    by_cases hlt : k < N
    · have hbs := hS.bel.size
      have hkL : k < L.length := by rw [HN.out]; exact hlt
      obtain ⟨b, o, q, c, rfl, hcell, hitem⟩ := (hin.below hS.bel).at hkL
      obtain ⟨l, hll⟩ : ∃ l, l = L[k] := ⟨_, rfl⟩
      rw [← hll] at hcell hitem
      have hlL : L[k]? = some l := by rw [hll]; exact List.getElem?_eq_getElem hkL
      have hln : l.length ≤ 1000000000000 := by have := hl l (by rw [hll]; exact List.getElem_mem hkL); omega
      have HLL := Lib.hid hlL
      have HS := Lib.hid hS
      obtain ⟨hs0, hrow, _, hnil⟩ := hS.row
      have hck : wr.cell? ⟨w1.heap.size, k, none⟩ = some (.slice none 0 0) := by
        rw [World.ownsRow.cellAt hrow k (by omega)]
        exact hnil k (Nat.le_refl _) hlt
      have hfk : wr.frozen? ⟨w1.heap.size, k, none⟩ = false := World.ownsRow.frozenAt hrow k
      have hg : w1.heap.size < wr.heap.size := by have := hS.size; omega
      obtain ⟨S, hSS⟩ : ∃ S : World → Prop, S = fun W => W.cell? ⟨w1.heap.size + 1, 0, none⟩ = some (.slice (some ⟨w1.heap.size, 0, none⟩) N N) := ⟨_, rfl⟩
      have HSS := Lib.hid (fun W => show S W ↔ W.cell? ⟨w1.heap.size + 1, 0, none⟩ = some (.slice (some ⟨w1.heap.size, 0, none⟩) N N) by rw [hSS])
      have HK0 := Lib.hid (show S wr.drew by rw [hSS]; exact hS.bo)
      have HCL := Lib.hid (show Calls Try.prog 21 #[.slice q l.length c] wr.drew fun e w' => ∃ qv cv, e = .returned (.slice qv l.length cv) ∧ OwnI w' wr.heap.size (.slice qv l.length cv) l ∧ Below wr.heap.size wr w' ∧ w'.cell? ⟨w1.heap.size, k, none⟩ = some (.slice none 0 0) ∧ w'.frozen? ⟨w1.heap.size, k, none⟩ = false ∧ S w' ∧ S (w'.setCell ⟨w1.heap.size, k, none⟩ (.slice qv l.length cv)) from
        (cloneI_any wr.drew (hitem.below (Below.refl _ wr).drew) rfl (by omega)).mono fun _ w' ⟨v, h1, h2, h3⟩ => by
          obtain ⟨qv, cv, rfl, _, _, _⟩ := h2.shape rfl
          have hb4 : Below wr.heap.size wr w' := ((Below.refl _ wr).drew).trans h3
          have hbo : w'.cell? ⟨w1.heap.size + 1, 0, none⟩ = some (.slice (some ⟨w1.heap.size, 0, none⟩) N N) := (hb4.cell (World.block_lt_of_cell? wr _ hS.bo)).trans hS.bo
          refine ⟨qv, cv, h1, h2, hb4, (hb4.cell (World.block_lt_of_cell? wr _ hck)).trans hck, (hb4.frozen hg).trans hfk, by rw [hSS]; exact hbo, ?_⟩
          rw [hSS]
          exact (World.cell?_setCell_other _ _ _ _ (by simp)).trans hbo)
      clear hSS hlL hll hS hrow hnil hitem hck hfk
      go_wp2_with fail
      go_region_held3 (fun W => W.cell? ⟨w1.heap.size + 1, 0, none⟩ = some (.slice (some ⟨w1.heap.size, 0, none⟩) N N))
        (first | (with_reducible exact (HSS.out _).1 HK0.out) | (with_reducible exact (HSS.out _).1 HK1.out) | (with_reducible exact (HSS.out _).1 HK2.out))
        (first
          | (go_at_call 21; with_reducible refine HCL.out.mono ?_; rintro e w4 ⟨qv, cv, rfl, hown4, hb4, hc4, hf4, hk1, hk2⟩; have HK1 := Lib.hid hk1; have HK2 := Lib.hid hk2; have HO4 := Lib.hid (And.intro hown4 hb4); clear hk1 hk2 hown4 hb4))
      all_goals
        go_wp2_with fail
        go_roundw
        case rel => exact ⟨k + 1, by omega, by go_num, HS.out.step HO4.out.2 hlt HLL.out HO4.out.1 (by omega) (by omega) (by omega) (fun ad h => (hpa ad h).2.1)⟩
        case measure => simp [intOf]; omega
    · obtain rfl : k = N := by omega
      go_wp2_with fail
      go_ret
      obtain ⟨hs0, h1, h2, _⟩ := hS.row
      have hN := HN.out
      refine ⟨_, _, _, _, pa, c1, rfl, ⟨by rw [hN]; exact hS.bo, ⟨hs0, by rw [hN]; exact h1, fun i l hi => h2 i l ?_ hi⟩, by rw [hpn]; exact hS.bp, by rw [hpn]; exact hS.picks, ⟨by omega, by omega, by omega, by omega⟩, ⟨by omega, by omega, by omega, hS.size⟩, fun ad h => ?_⟩, hS.bel⟩
      · rw [← hN]; exact (List.getElem?_eq_some_iff.1 hi).1
      · have := (hpa ad h).2.1
        omega
end Go.Proofs.Ytmllcfkgkkbkpaa
/-
  WHAT Merge ANSWERS: plain.
-/
namespace Go.Proofs.Ytmllcfkgkkbkpaa
theorem lens_map {α β : Type} (f : α → β) (L : List (List α)) : lens (L.map (List.map f)) = lens L := by simp [lens]
theorem total_map {α β : Type} (f : α → β) (L : List (List α)) : total (L.map (List.map f)) = total L := by
  simp only [total, List.map_map]
  congr 1
  apply List.map_congr_left
  intro l _
  simp
theorem things_map {α β : Type} (f : α → β) (picks : List Int) : ∀ (n : Nat) (L : List (List α)) (k : Nat), total L = n → things (L.map (List.map f)) picks k = (things L picks k).map fun x => (x.1, f x.2)
  | n, L, k, hn => by
    rcases turn_left (rems := L) (pick := picks.getD k 0) with ⟨h, _⟩ | ⟨i, v, vs, h, hi, hr⟩
    · rw [things_end h, things_end (by rw [lens_map]; exact h)]
      rfl
    · have hr2 : (L.map (List.map f))[i]? = some (f v :: vs.map f) := by rw [List.getElem?_map, hr]; rfl
      have ht := total_set hr
      rw [things_step h hr, things_step (by rw [lens_map]; exact h) hr2, List.map_cons]
      have e : (L.map (List.map f)).set i (vs.map f) = (L.set i vs).map (List.map f) := by rw [List.map_set]
      rw [e]
      cases n with
      | zero => omega
      | succ n => rw [things_map f picks n (L.set i vs) (k + 1) (by omega)]
theorem iv_eq_map (l : List Int) : iv l = l.map fun x => Go.Value.int .i64 x := rfl
/-- The numbers of all inputs, as the picks say. -/
def mergeT (L : List (List Int)) (picks : List Int) : List Int := (things L picks 0).map (·.2)
theorem things_iv (L : List (List Int)) (picks : List Int) (k : Nat) : things (L.map iv) picks k = (things L picks k).map fun x => (x.1, Go.Value.int .i64 x.2) := things_map _ picks _ L k rfl
theorem total_iv (L : List (List Int)) : total (L.map iv) = total L := total_map _ L
end Go.Proofs.Ytmllcfkgkkbkpaa
/-
  The plain helpers of the statements: copyInts, SameInts, many, copyLists.
-/
namespace Go.Proofs.Ytmllcfkgkkbkpaa
open Go.RowKit
set_option maxRecDepth 100000 in
set_option maxHeartbeats 4000000 in
theorem copyInts_any {p : Option Addr} {l : List Int} {n c : Nat} (w : World) (hin : InI w p l) (hn : l.length = n) (hs : n ≤ 20000000000000) :
    Calls Try.prog 12 #[.slice p n c] w fun e w' => ∃ v, e = .returned v ∧ OwnI w' w.heap.size v l ∧ Below w.heap.size w w' := by
  have HN := Lib.hid hn
  clear hn
  have hown := OwnI.made w
  have hin1 := hin.alloc (.cells #[] 3)
  go_enter Try.func12, Try.ntmps12
  go_wp2_with (at_builtin; refine wpList_appendI rfl _ _ rfl w.heap.size _ _ rfl hown _ _ _ _ HN.out rfl hin1 (by simp; omega) (by simp) ?_; intro v2 w2 hown2 hgrow2 _)
  go_ret
  exact ⟨_, rfl, hown2, ownI_grown ((Below.refl _ w).alloc (Nat.le_refl _) _) (by simp) hown hgrow2⟩
theorem take_eqI (l m : List Int) (k : Nat) (h1 : k < l.length) (h2 : k < m.length) (h : l.take k = m.take k) (e : l[k] = m[k]) : l.take (k + 1) = m.take (k + 1) := by
  rw [List.take_succ_eq_append_getElem h1, List.take_succ_eq_append_getElem h2, h, e]
theorem get_neI (l m : List Int) (k : Nat) (h1 : k < l.length) (h2 : k < m.length) (e : ¬ l[k] = m[k]) : l ≠ m := by
  rintro rfl
  exact e rfl
set_option maxRecDepth 100000 in
set_option maxHeartbeats 4000000 in
theorem sameInts_any {p q : Option Addr} {l m : List Int} {n c n2 d : Nat} (w : World) (h : InI w p l) (h2 : InI w q m) (hn : l.length = n) (hn2 : m.length = n2) (hs : n ≤ 20000000000000) :
    Calls Try.prog 13 #[.slice p n c, .slice q n2 d] w fun e w' => e = .returned (.bool (decide (l = m))) ∧ Below w.heap.size w w' := by
  subst hn
  subst hn2
  by_cases hlen : l.length = m.length
  · have hne : ((l.length : Int) != (m.length : Int)) = false := by simp [hlen]
    go_enter Try.func13, Try.ntmps13
    go_wp2
    go_loopw [5] (fun i wr => ∃ k : Nat, k ≤ l.length ∧ i = .int .i64 k ∧ l.take k = m.take k ∧ Below w.heap.size w wr) (fun i _ => l.length - (intOf i).toNat)
    case atStart => exact ⟨0, Nat.zero_le _, rfl, rfl, Below.refl _ _⟩
    case round =>
      obtain ⟨k, hk, rfl, hpre, hb⟩ := hrel
      by_cases hlt : k < l.length
      · have hlt2 : k < m.length := by omega
        obtain ⟨b, o, rfl, hck⟩ := (h.below hb).at hlt
        obtain ⟨b2, o2, rfl, hck2⟩ := (h2.below hb).at hlt2
        have HP := Lib.hid hpre
        have HL := Lib.hid hlen
        have HT := Lib.hid (take_eqI l m k hlt hlt2 hpre)
        have HNE := Lib.hid (get_neI l m k hlt hlt2)
        generalize l[k] = x at hck HT HNE
        generalize m[k] = y at hck2 HT HNE
        clear h h2 hpre hlen
        by_cases heq : x = y
        · have hb1 : (x != y) = false := by simp [heq]
          have HE := Lib.hid heq
          clear heq
          go_wp2
          go_quiet (fail)
          go_wp2
          go_roundw
          case rel => exact ⟨k + 1, by omega, by go_num, HT.out HE.out, bdrewN hb _⟩
          case measure => simp [intOf]; omega
        · have hb1 : (x != y) = true := by simp [heq]
          have HE := Lib.hid heq
          clear heq
          go_wp2
          go_quiet (fail)
          go_wp2
          go_ret
          exact ⟨by rw [decide_eq_false (HNE.out HE.out)]; rfl, bdrewN hb _⟩
      · obtain rfl : k = l.length := by omega
        have he : l = m := by
          rw [List.take_length, hlen, List.take_length] at hpre
          exact hpre
        have HE := Lib.hid he
        clear he hpre hlen
        go_wp2
        go_ret
        exact ⟨by rw [decide_eq_true HE.out]; rfl, hb⟩
  · have hne : ((l.length : Int) != (m.length : Int)) = true := by simp; omega
    have HE := Lib.hid (show l ≠ m from fun e => hlen (by rw [e]))
    clear hlen
    go_enter Try.func13, Try.ntmps13
    go_wp2
    go_ret
    exact ⟨by rw [decide_eq_false HE.out]; rfl, Below.refl _ _⟩
theorem total_take {α : Type} (L : List (List α)) (k : Nat) (h : k < L.length) : total (L.take (k + 1)) = total (L.take k) + L[k].length := by
  unfold total
  rw [List.take_succ_eq_append_getElem h, List.map_append, List.sum_append]
  simp
theorem total_take_le {α : Type} (L : List (List α)) (k : Nat) : total (L.take k) ≤ total L := by
  induction L generalizing k with
  | nil => simp [total]
  | cons a L ih =>
    cases k with
    | zero => simp [total]
    | succ k =>
      have := ih k
      simp only [total, List.take_succ_cons, List.map_cons, List.sum_cons] at this ⊢
      omega
set_option maxRecDepth 100000 in
set_option maxHeartbeats 4000000 in
/-- many, where there is no overflow. -/
theorem many_any {p : Option Addr} {L : List (List Int)} {n c : Nat} (w : World) (h : InLs w p L) (hn : L.length = n) (hs : n ≤ 1000000000000) (htot : total L ≤ 1000000000000) :
    Calls Try.prog 10 #[.slice p n c] w fun e w' => e = .returned (.bool (decide (100 < n ∨ 2000 < total L))) ∧ Below w.heap.size w w' := by
  have HN := Lib.hid hn
  have HTT := Lib.hid (total_take_le L)
  clear hn
  go_enter Try.func10, Try.ntmps10
  go_wp2
  go_loopw [3, 4] (fun s i wr => ∃ k : Nat, k ≤ n ∧ i = .int .i64 k ∧ s = .int .i64 (total (L.take k) : Nat) ∧ Below w.heap.size w wr) (fun _ i _ => n - (intOf i).toNat)
  case atStart => exact ⟨0, Nat.zero_le _, rfl, rfl, Below.refl _ _⟩
  case round =>
    obtain ⟨k, hk, rfl, rfl, hb⟩ := hrel
    by_cases hlt : k < n
    · have hkL : k < L.length := by rw [HN.out]; exact hlt
      have HT := Lib.hid (total_take L k hkL)
      have hle := HTT.out (k + 1)
      rw [HT.out] at hle
      obtain ⟨b, o, q, c2, rfl, hc, _⟩ := (h.below hb).at hkL
      generalize L[k].length = m at hc HT hle
      obtain ⟨s, hs0⟩ : ∃ s, s = total (L.take k) := ⟨_, rfl⟩
      rw [← hs0] at HT hle ⊢
      have HS := Lib.hid hs0
      clear hs0
      go_wp2
      go_roundw
      case rel => exact ⟨k + 1, by omega, by go_num, by rw [HT.out]; go_num, hb⟩
      case measure => simp [intOf]; omega
    · obtain rfl : k = n := by omega
      have hL : L.take k = L := List.take_of_length_le (by rw [HN.out]; exact Nat.le_refl _)
      rw [hL]
      by_cases h1 : 100 < k
      · have hd : decide ((k : Int) > 100) = true := by simp; omega
        have HD := Lib.hid (show decide (100 < k ∨ 2000 < total L) = true by simp; omega)
        go_wp2
        go_ret
        exact ⟨by rw [HD.out]; rfl, hb⟩
      · have hd : decide ((k : Int) > 100) = false := by simp; omega
        by_cases h2 : 2000 < total L
        · have hd2 : decide ((total L : Int) > 2000) = true := by simp; omega
          have HD := Lib.hid (show decide (100 < k ∨ 2000 < total L) = true by simp; omega)
          go_wp2
          go_ret
          exact ⟨by rw [HD.out]; rfl, hb⟩
        · have hd2 : decide ((total L : Int) > 2000) = false := by simp; omega
          have HD := Lib.hid (show decide (100 < k ∨ 2000 < total L) = false by simp; omega)
          go_wp2
          go_ret
          exact ⟨by rw [HD.out]; rfl, hb⟩
end Go.Proofs.Ytmllcfkgkkbkpaa
/-
  MuxFirst: plain.
-/
namespace Go.Proofs.Ytmllcfkgkkbkpaa
theorem openTo_two (x y : Int) : openTo [x, y] 2 = (if 0 < x then [0] else []) ++ (if 0 < y then [1] else []) := by
  rw [openTo_succ, openTo_succ, openTo_zero]
  simp
theorem turnT_of {left : List Int} {n : Nat} {o : List Int} (hn : left.length = n) (h : openTo left n = o) (pick : Int) : turnT left pick = if o.length = 0 then -1 else o.getD ((max pick 0) % o.length).toNat 0 := by
  unfold turnT
  rw [hn, h]
theorem turn_two_first {x y : Int} (hx : 0 < x) : turnT [x, y] 0 = 0 := by
  rw [turnT_of (n := 2) rfl (openTo_two x y), if_pos hx]
  simp
theorem turn_two_second {x y : Int} (hx : ¬ 0 < x) (hy : 0 < y) (p : Int) : turnT [x, y] p = 1 := by
  rw [turnT_of (n := 2) rfl (openTo_two x y), if_neg hx, if_pos hy]
  simp [Int.emod_one]
theorem turn_two_none {x y : Int} (hx : ¬ 0 < x) (hy : ¬ 0 < y) (p : Int) : turnT [x, y] p = -1 := by
  rw [turnT_of (n := 2) rfl (openTo_two x y), if_neg hx, if_neg hy]
  simp
theorem lens_two (a b : List Int) : lens [a, b] = [(a.length : Int), (b.length : Int)] := rfl
theorem things_second (b : List Int) (picks : List Int) : ∀ k, (things [[], b] picks k).map (·.2) = b := by
  induction b with
  | nil =>
    intro k
    rw [things_end (by rw [lens_two]; exact turn_two_none (by simp) (by simp) _)]
    rfl
  | cons y b ih =>
    intro k
    rw [things_step (i := 1) (v := y) (vs := b) (by rw [lens_two]; exact turn_two_second (by simp) (by simp only [List.length_cons]; omega) _) rfl, List.map_cons]
    exact congrArg _ (ih (k + 1))
theorem things_first (a b : List Int) : ∀ k, (things [a, b] [] k).map (·.2) = a ++ b := by
  induction a with
  | nil => exact things_second b []
  | cons x a ih =>
    intro k
    rw [things_step (i := 0) (v := x) (vs := a) (by rw [lens_two]; exact turn_two_first (by simp only [List.length_cons]; omega)) rfl, List.map_cons]
    exact congrArg _ (ih (k + 1))
theorem merge_first (a b : List Int) : mergeT [a, b] [] = a ++ b := things_first a b 0
theorem merge_second (a picks : List Int) : mergeT [[], a] picks = a := things_second a picks 0
end Go.Proofs.Ytmllcfkgkkbkpaa
/-
  ROWS OF rows of ints that a call owns; append; copyLists.
-/
namespace Go.Proofs.Ytmllcfkgkkbkpaa
open Go.RowKit
/-- A row of the call's own whose things are rows of the call's own. -/
def OwnLs (w : World) (base : Nat) (v : Value) (L : List (List Int)) : Prop :=
  ∃ hs : List Value, w.ownsRow base 23 1 v L.length hs ∧ ∀ (i : Nat) (l : List Int), L[i]? = some l → ∃ u, hs[i]? = some u ∧ OwnI w base u l
theorem OwnLs.below {w w' : World} {base : Nat} {v : Value} {L : List (List Int)} (h : OwnLs w base v L) (hb : Below w.heap.size w w') : OwnLs w' base v L := by
  obtain ⟨hs, h1, h2⟩ := h
  exact ⟨hs, ownsRow_below h1 hb, fun i l hi => let ⟨u, h3, h4⟩ := h2 i l hi; ⟨u, h3, h4.below hb⟩⟩
theorem OwnLs.mono {w : World} {base base' : Nat} {v : Value} {L : List (List Int)} (h : OwnLs w base v L) (hb : base' ≤ base) : OwnLs w base' v L := by
  obtain ⟨hs, h1, h2⟩ := h
  exact ⟨hs, ownsRow_mono h1 hb, fun i l hi => let ⟨u, h3, h4⟩ := h2 i l hi; ⟨u, h3, h4.mono hb⟩⟩
theorem OwnLs.alloc {w : World} {base : Nat} {v : Value} {L : List (List Int)} (h : OwnLs w base v L) (o : Obj) : OwnLs (w.alloc o) base v L := h.below ((Below.refl _ w).alloc (Nat.le_refl _) o)
theorem OwnLs.drewN {w : World} {base : Nat} {v : Value} {L : List (List Int)} (h : OwnLs w base v L) (n : Nat) : OwnLs (w.drewN n) base v L := h
theorem OwnLs.made (w : World) : OwnLs (w.alloc (.cells #[] 23)) w.heap.size (.slice (some ⟨w.heap.size, 0, none⟩) 0 0) [] :=
  ⟨[], World.ownsRow_made w #[] 0 (Nat.le_refl _) (by unfold maxLen; omega) rfl, fun i l hi => by simp at hi⟩
theorem OwnLs.shape {w : World} {base n : Nat} {v : Value} {L : List (List Int)} (h : OwnLs w base v L) (hn : L.length = n) : ∃ p c, v = .slice p n c ∧ n ≤ c ∧ c ≤ maxLen ∧ InLs w p L ∧ (∀ a, p = some a → base ≤ a.block ∧ a.block < w.heap.size) := by
  subst hn
  obtain ⟨hs, h1, h2⟩ := h
  obtain ⟨p, c, e, h3, h4, h5, h6⟩ := owns_shapeV h1
  refine ⟨p, c, e, h3, h4, ⟨hs, h5, by have := h1.1; omega, fun i l hi => ?_⟩, fun a ha => ⟨(h6 a ha).1, (h6 a ha).2.1⟩⟩
  obtain ⟨u, h7, h8⟩ := h2 i l hi
  obtain ⟨q, c2, rfl, _, _, h9, _⟩ := h8.shape rfl
  exact ⟨q, c2, h7, h9⟩
theorem rows_apart {w : World} {b b' n n' : Nat} {v u : Value} {xs : List Value} {l : List Int} (h : w.ownsRow b 23 1 v n xs) (h' : w.ownsRow b' 3 1 u n' (iv l)) : ∀ g, u.ownBlock = some g → some g ≠ v.ownBlock := by
  intro g hg hg'
  rcases h.2 with ⟨rfl, _⟩ | ⟨g1, _, _, rfl, _, h1, _⟩
  · cases hg'
  · rcases h'.2 with ⟨rfl, _⟩ | ⟨g2, _, _, rfl, _, h2, _⟩
    · cases hg
    · obtain rfl : g2 = g := by simpa [Value.ownBlock] using hg
      obtain rfl : g2 = g1 := by simpa [Value.ownBlock] using hg'
      rw [h1] at h2
      cases h2
theorem keepI {w w' : World} {base : Nat} {u : Value} {l : List Int} (h : OwnI w base u l) (hk : ∀ g, g < w.heap.size → u.ownBlock = some g → w'.heap[g]? = w.heap[g]?) : OwnI w' base u l := by
  refine ⟨h.1, h.2.imp _root_.id ?_⟩
  rintro ⟨g, cap, cur, rfl, hb, hg, hr⟩
  exact ⟨g, cap, cur, rfl, hb, (hk g (Array.getElem?_eq_some_iff.1 hg).1 rfl).trans hg, hr⟩
/-- append of one row onto rows of the call's own -/
theorem wpList_appendL {w : World} {ops : Array Oper} {rest : List Oper} {o : Oper} {a : Act} {Q : Exit → Act → World → Prop} (hgd : o.guard = Option.none) (s x : Operand)
    (ho : o.op = .call { callee := .builtin .append, args := #[s, x], argTypes := #[22, 22] })
    (base : Nat) (v : Value) (L : List (List Int)) (hv : a.eval s = v) (hown : OwnLs w base v L)
    (p : Option Addr) (c : Nat) (u : Value) (l : List Int) (hx : a.eval x = .slice p 1 c) (hin : InV w p [u]) (hu : OwnI w base u l)
    (hr : L.length + 1 ≤ 1000000000) (hbase : base ≤ w.heap.size)
    (h : ∀ v' w', OwnLs w' base v' (L ++ [l]) → w.grownBy w' v.ownBlock → wpList Try.prog ops Q rest (a.put o.dst v') w') : wpList Try.prog ops Q (o :: rest) a w := by
  obtain ⟨hs, h1, h2⟩ := hown
  obtain ⟨q, cq, rfl, _⟩ := hu.shape rfl
  have hlen : hs.length = L.length := by have := h1.1; omega
  refine wpList_append_fit w hgd s x 22 22 ho base 23 (.slice Option.none 0 0) 1 24 Try.underlying22 infoL rfl v L.length hs hv h1 _ 1 [.slice q l.length cq] hx (by have := srcV (c := c) Try.underlying22 hin (by simp [Value.oneCell']); simpa using this) (by unfold maxLen; omega) (by omega) hbase ?_
  intro v' w' ho' hg _
  have low : ∀ {u' : Value} {l' : List Int}, OwnI w base u' l' → OwnI w' base u' l' := fun hu' => keepI hu' fun g hg1 e => hg.block g hg1 fun e2 => rows_apart h1 hu' g e e2
  refine h v' w' ⟨hs ++ [.slice q l.length cq], by rw [List.length_append]; exact ho', fun i l' hi => ?_⟩ hg
  by_cases hi2 : i < L.length
  · rw [List.getElem?_append_left hi2] at hi
    obtain ⟨u', h3, h4⟩ := h2 i l' hi
    exact ⟨u', by rw [List.getElem?_append_left (by omega)]; exact h3, low h4⟩
  · have hi3 := (List.getElem?_eq_some_iff.1 hi).1
    simp only [List.length_append, List.length_singleton] at hi3
    obtain rfl : i = L.length := by omega
    rw [List.getElem?_append_right (Nat.le_refl _), Nat.sub_self] at hi
    cases hi
    exact ⟨_, by rw [List.getElem?_append_right (by omega), show L.length - hs.length = 0 by omega]; rfl, low hu⟩
theorem ownLs_grown {w w1 w' : World} {B : Nat} {v : Value} {L : List (List Int)} (hB : Below B w w1) (hs : B ≤ w1.heap.size) (hown : OwnLs w1 B v L) (hg : w1.grownBy w' v.ownBlock) : Below B w w' := by
  obtain ⟨hs0, h1, _⟩ := hown
  exact hB.grown hg hs (fun k e => (World.ownsRow.lt h1 k e).1)
theorem InV.oneV (w : World) (x : Value) (e : TypeId) : InV (w.alloc (.cells #[x] e)) (some ⟨w.heap.size, 0, none⟩) [x] := InV.lit w _ _ _ _ rfl
theorem takesL (L : List (List Int)) (k : Nat) (h : k < L.length) : L.take (k + 1) = L.take k ++ [L[k]] := List.take_succ_eq_append_getElem h
set_option maxRecDepth 100000 in
set_option maxHeartbeats 4000000 in
theorem copyLists_any {p : Option Addr} {L : List (List Int)} {n c : Nat} (w : World) (hin : InLs w p L) (hn : L.length = n) (hs : n < 1000000) (hl : ∀ l ∈ L, l.length ≤ 1000000000000) :
    Calls Try.prog 11 #[.slice p n c] w fun e w' => ∃ v, e = .returned v ∧ OwnLs w' w.heap.size v L ∧ Below w.heap.size w w' := by
  have HN := Lib.hid hn
  clear hn
  have hmade := OwnLs.made w
  have hb0 : Below w.heap.size w (w.alloc (.cells #[] 23)) := (Below.refl _ w).alloc (Nat.le_refl _) _
  go_enter Try.func11, Try.ntmps11
  go_wp2
  go_loopw [3, 4] (fun v i wr => ∃ k : Nat, k ≤ n ∧ i = .int .i64 k ∧ OwnLs wr w.heap.size v (L.take k) ∧ Below w.heap.size w wr) (fun _ i _ => n - (intOf i).toNat)
  case atStart => exact ⟨0, Nat.zero_le _, rfl, by rw [List.take_zero]; exact hmade, hb0⟩
  case round =>
    obtain ⟨k, hk, rfl, hown, hb⟩ := hrel
    have hbs := hb.size
    by_cases hlt : k < n
    · have hkL : k < L.length := by rw [HN.out]; exact hlt
      obtain ⟨b, o, q, cq, rfl, hc, hitem⟩ := (hin.below hb).at hkL
      have HT := Lib.hid (takesL L k hkL)
      have hll := hl L[k] (List.getElem_mem hkL)
      have htl : (L.take k).length ≤ k := by rw [List.length_take]; omega
      generalize L[k] = l at hc hitem HT hll
      have hone := OwnI.made wr
      have hitem1 := hitem.alloc (.cells #[] 3)
      have hc1 := cell_past hc (.cells #[] 3)
      have HOW := Lib.hid hown
      have HB := Lib.hid hb
      clear hown hc hitem hb
      go_wp2_with (first
        | (at_builtin; refine wpList_appendI rfl _ _ rfl wr.heap.size _ _ rfl hone _ _ _ l rfl rfl hitem1 (by simp; omega) (by simp) ?_; intro u2 w2 hu2 hgrow2 _
           obtain ⟨q2, c2, rfl, _, _, _, _⟩ := hu2.shape (n := l.length) (by simp)
           have HU2 := Lib.hid hu2
           have HB2 := Lib.hid (ownI_grown ((Below.refl _ wr).alloc (Nat.le_refl _) (.cells #[] 3)) (by simp) hone hgrow2)
           clear hu2 hgrow2)
        | (at_builtin; refine wpList_appendL rfl _ _ rfl w.heap.size _ (L.take k) rfl ((HOW.out.below HB2.out).alloc _) _ _ (.slice q2 l.length c2) l rfl (InV.oneV w2 _ _) ((HU2.out.mono hbs).alloc _) (by omega) (by have := HB2.out.size; simp only [World.size_alloc]; omega) ?_
           intro v3 w3 hown3 hgrow3))
      have hb2 := HB.out.trans (HB2.out.mono hbs)
      have hbs2 : w.heap.size ≤ w2.heap.size := hb2.size
      go_roundw
      case rel => exact ⟨k + 1, by omega, by go_num, by rw [HT.out]; exact hown3, ownLs_grown (hb2.alloc hbs2 _) (by simp; omega) ((HOW.out.below HB2.out).alloc _) hgrow3⟩
      case measure => simp [intOf]; omega
    · obtain rfl : k = n := by omega
      have hL : L.take k = L := List.take_of_length_le (by rw [HN.out]; exact Nat.le_refl _)
      rw [hL] at hown
      go_wp2
      go_ret
      exact ⟨_, rfl, hown, hb⟩
end Go.Proofs.Ytmllcfkgkkbkpaa
/-
  THE STARTER BESIDE WORKERS THAT MAKE BLOCKS OF THEIR OWN: what it does not know is foreign.
-/
namespace Go.Proofs.Ytmllcfkgkkbkpaa
open Go Go.Conc
open Go.ConcN (sumTo upd sumTo_upd sumTo_upd_out upd_ne upd_same CT RelBy WD WgLive OkW Ok0 Apart PermW get_map_set get_map_set_same le_sumTo Deaf_absent)
open Go.ConcR (KK wgBlock WgAt stA smA rd wr mk DC0 Bk bk_of_mute ofEvent_loc_mark g_of_ofEvents)
/-- All that will come is foreign. -/
def wideP (σ : Ph) (s : Nat) : Ph := { σ with F := fun x => σ.F x ∨ s ≤ x, al := true }
/-- .. but what the starter makes. -/
def shed (σ : Ph) (s e : Nat) : Ph := { σ with F := fun x => σ.F x ∧ ¬ (s ≤ x ∧ x < e) }
section
variable {P : Program} {ty : TypeId} {z z' : Value} {Post : Value → World → Prop} {σ : Ph} {Ow : Nat → Nat → Prop} {g : Goroutine} {w w' : World} {gs gs' : Array Goroutine} {t : Trace} {D D' : Nat → WD} {st sm st' sm' : Int}
theorem all_idle (ht : σ.tag = .idle) (hW : WI P ty z z' σ Ow gs w D st sm) : AllD gs.size D := by
  have hm := hW.mode
  rw [ht] at hm
  cases hm with
  | idle hA => exact hA
  | reg hx _ _ _ => rcases hx with hx | hx <;> cases hx
  | last L hx _ _ _ _ => rcases hx with hx | hx <;> cases hx
/-- The select's zero values may be others while nobody is at work. -/
theorem ms_z {y y' : Value} (ht : σ.tag = .idle) (h : MS P ty y y' Post σ g w) : MS P ty z z' Post σ g w := by
  intro w₁ r gs sl t D hI hg
  obtain ⟨Ow, ⟨st, sm, hW⟩, hT⟩ := hI
  have hA := all_idle ht hW
  refine h w₁ r gs sl t D ⟨Ow, ⟨st, sm, ⟨hW.pos, hW.le, hW.zero, fun i i0 hi => ?_, hW.old, hW.chan, hW.quit, hW.wg, hW.mode, hW.vb, hW.still, hW.none, hW.room, hW.size, hW.fch, hW.fq, hW.fw, hW.inj, hW.chq, hW.chw, hW.qw, hW.klay, hW.layF, hW.layat, hW.layq, hW.laych⟩⟩, hT⟩ hg
  obtain ⟨y, hy, hs⟩ := hW.sit i i0 hi
  exact ⟨y, hy, hs.old (hA i hi)⟩
/-- ████ FROM NOW ON workers may make blocks. ████ -/
theorem ms_wide (hal : σ.al = false) (hFl : ∀ b, σ.F b → b < w.heap.size) (h : MS P ty z z' Post (wideP σ w.heap.size) g w) : MS P ty z z' Post σ g w := by
  intro w₁ r gs sl t D hI hg
  have hsz := r.sizeEq hFl
  refine h w₁ (RF.grow (fun _ h => .inl h) (fun x o' hx hnx ho => ?_) r) gs sl t D ?_ hg
  · have h1 := (Array.getElem?_eq_some_iff.1 ho).1
    rcases hx with hx | hx
    · exact absurd hx hnx
    · omega
  · obtain ⟨Ow, ⟨st, sm, hW⟩, hT⟩ := hI
    refine ⟨Ow, ⟨st, sm, ⟨hW.pos, hW.le, hW.zero, fun i i0 hi => ?_, hW.old, hW.chan, hW.quit, hW.wg, hW.mode, hW.vb, hW.still, hW.none, hW.room, hW.size, fun i i0 hi => .inl (hW.fch i i0 hi), fun e => .inl (hW.fq e), fun e => .inl (hW.fw e), hW.inj, hW.chq, hW.chw, hW.qw, hW.klay, fun x hx => .inl (hW.layF x hx), hW.layat, hW.layq, hW.laych⟩⟩,
      hT.ct, hT.low, hT.d0, hT.dw, hT.nrel, hT.handed, hT.rel, fun x hx => .inl (hT.swF x hx), hT.swW, hT.apart, fun x hx => .inl (hT.layF x hx), hT.klay, fun i i0 hi => .inl (hT.chF i i0 hi), hT.pos, ⟨hT.ow.lt, hT.ow.idx, fun i x hx => .inl (hT.ow.F i x hx), hT.ow.lay, hT.ow.sw, hT.ow.ch, hT.ow.q, hT.ow.wne, hT.ow.inj, fun _ x hx => .inr (by omega)⟩, hT.swn, hT.layn, hT.qwn, hT.chn⟩
    obtain ⟨y, hy, hs⟩ := hW.sit i i0 hi
    rw [hal] at hs
    exact ⟨y, hy, hs.wide⟩
/-- ████ .. and no more. ████ -/
theorem ms_narrow (ht : σ.tag = .idle) (h : ∀ w₁, RF σ.F w w₁ → MS P ty z z' Post { σ with F := fun x => σ.F x ∧ x < w₁.heap.size, al := false } g w₁) : MS P ty z z' Post σ g w := by
  intro w₁ r gs sl t D hI hg
  refine h w₁ r w₁ (.refl _ _) gs sl t D ?_ hg
  obtain ⟨Ow, ⟨st, sm, hW⟩, hT⟩ := hI
  have hA := all_idle ht hW
  have hF0 := hW.none ht
  have none : ∀ i, σ.first ≤ i → i < gs.size → False := fun i i0 hi => by omega
  refine ⟨Ow, ⟨st, sm, ⟨hW.pos, hW.le, hW.zero, fun i i0 hi => ?_, hW.old, hW.chan, hW.quit, hW.wg, hW.mode, hW.vb, hW.still, hW.none, hW.room, hW.size, fun i i0 hi => (none i i0 hi).elim, fun e => absurd ht e, fun e => absurd ht e, hW.inj, hW.chq, hW.chw, hW.qw, hW.klay, fun x hx => ⟨hW.layF x hx, hT.layn x hx⟩, hW.layat, hW.layq, hW.laych⟩⟩,
    hT.ct, hT.low, hT.d0, hT.dw, hT.nrel, hT.handed, hT.rel, fun x hx => ⟨hT.swF x hx, hT.swn x hx⟩, hT.swW, hT.apart, fun x hx => ⟨hT.layF x hx, hT.layn x hx⟩, hT.klay, fun i i0 hi => ⟨hT.chF i i0 hi, hT.chn i i0 hi⟩, hT.pos, ⟨hT.ow.lt, hT.ow.idx, fun i x hx => ⟨hT.ow.F i x hx, hT.ow.lt i x hx⟩, hT.ow.lay, hT.ow.sw, hT.ow.ch, hT.ow.q, hT.ow.wne, hT.ow.inj, fun e => by cases e⟩, hT.swn, hT.layn, hT.qwn, hT.chn⟩
  obtain ⟨y, hy, hs⟩ := hW.sit i i0 hi
  exact ⟨y, hy, hs.old (hA i hi)⟩
/-- What it knows of its steps. -/
theorem TI.shed {N n m : Nat} (h : TI σ Ow N t n D) (hn : n ≤ m) : TI (shed σ n m) Ow N t m D :=
  ⟨h.ct, (h.mono hn).low, h.d0, h.dw, h.nrel, h.handed, h.rel, fun x hx => ⟨h.swF x hx, fun y => by have := h.swn x hx; omega⟩, h.swW, h.apart, fun x hx => ⟨h.layF x hx, fun y => by have := h.layn x hx; omega⟩, h.klay, fun i i0 hi => ⟨h.chF i i0 hi, fun (y : n ≤ σ.ch i ∧ σ.ch i < m) => by have := h.chn i i0 hi; omega⟩, h.pos,
    ⟨(h.mono hn).ow.lt, h.ow.idx, fun i x hx => ⟨h.ow.F i x hx, fun y => by have := h.ow.lt i x hx; omega⟩, h.ow.lay, h.ow.sw, h.ow.ch, h.ow.q, h.ow.wne, h.ow.inj, fun ha x hx => ⟨h.ow.wide ha x (by omega), fun y => by omega⟩⟩, (h.mono hn).swn, (h.mono hn).layn, (h.mono hn).qwn, (h.mono hn).chn⟩
/-- An own step: what it makes is its own. -/
theorem ms_ownG (hr : g.status = .running) (hb : σ.tag ≠ .blk)
    (h : ∀ w₁, RF σ.F w w₁ → (σ.tag ≠ .idle → WgLive ty σ.Wg w₁) → (∀ b o, σ.lay b = some o → w₁.heap[b]? = some o) → ∃ g' w' es, stepG P true g w₁ = .go g' w' es ∧ (∀ b, b < w₁.heap.size → σ.F b → w'.heap[b]? = w₁.heap[b]?) ∧ w₁.heap.size ≤ w'.heap.size ∧ (∀ e ∈ es, EvM (shed σ w₁.heap.size w'.heap.size) w'.heap.size e) ∧ MS P ty z z' Post (shed σ w₁.heap.size w'.heap.size) g' w') : MS P ty z z' Post σ g w := by
  refine ms_node hr hb fun w₁ r₁ gs sl t D hI hg => .inl ?_
  obtain ⟨Ow, ⟨st, sm, hW⟩, hT⟩ := hI
  obtain ⟨g', w', es, hgo, hF, hn, hev, hms⟩ := h w₁ r₁ (fun ht => ⟨_, _, hW.wg ht⟩) hW.layat
  have hok := ok0_evM (hT.shed hn) (fn := g.frame.fn) (pos := g.frame.place) hev
  have hWl : σ.tag ≠ .idle → σ.Wg < w₁.heap.size := fun ht => (hT.qwn ht).2
  obtain ⟨gs', ops, h1, h2, h3, h4, hsz⟩ := go_inv0 (sl := sl) (tag' := σ.tag) (d' := σ.d0) (vb' := σ.vb) (st' := st) (sm' := sm) hW hT hg hgo (fun b hb hf _ => hF b hb hf) (fun b hb => hF b (hT.layn b hb) (hW.layF b hb)) (fun ht => (hW.wg ht).of_block (hF _ (hWl ht) (hW.fw ht))) hW.mode Iff.rfl hW.vb hn hok (fun e he => low_evM (hev e he)) (fun e he => norel_evM (hev e he)) (deaf_evM hev _)
  have hlt : ∀ i, σ.first ≤ i → i < gs'.size → σ.ch i < w₁.heap.size := fun i i0 hi => hT.chn i (by have := hW.pos; omega) (hsz ▸ hi)
  refine ⟨_, _, h1, hms w' (.refl _ _) gs' sl _ D ⟨Ow, ⟨st, sm, ⟨h2.pos, h2.le, h2.zero, h2.sit, h2.old, h2.chan, h2.quit, h2.wg, h2.mode, h2.vb, h2.still, h2.none, h2.room, h2.size, fun i i0 hi => ⟨h2.fch i i0 hi, fun (y : w₁.heap.size ≤ σ.ch i ∧ σ.ch i < w'.heap.size) => by have := hlt i i0 hi; omega⟩, fun e => ⟨h2.fq e, fun (y : w₁.heap.size ≤ σ.quit ∧ σ.quit < w'.heap.size) => by have := (hT.qwn e).1; omega⟩, fun e => ⟨h2.fw e, fun (y : w₁.heap.size ≤ σ.Wg ∧ σ.Wg < w'.heap.size) => by have := (hT.qwn e).2; omega⟩, h2.inj, h2.chq, h2.chw, h2.qw, h2.klay, fun x hx => ⟨h2.layF x hx, fun y => by have := hT.layn x hx; omega⟩, h2.layat, h2.layq, h2.laych⟩⟩, ?_⟩ h4⟩
  exact ⟨h3.ct, h3.low, h3.d0, h3.dw, h3.nrel, h3.handed, h3.rel, fun x hx => ⟨h3.swF x hx, fun y => by have := hT.swn x hx; omega⟩, h3.swW, h3.apart, fun x hx => ⟨h3.layF x hx, fun y => by have := hT.layn x hx; omega⟩, h3.klay, fun i i0 hi => ⟨h3.chF i i0 hi, fun (y : w₁.heap.size ≤ σ.ch i ∧ σ.ch i < w'.heap.size) => by have := hT.chn i i0 (hsz ▸ hi); omega⟩, h3.pos,
    ⟨h3.ow.lt, h3.ow.idx, fun i x hx => ⟨h3.ow.F i x hx, fun y => by have := hT.ow.lt i x hx; omega⟩, h3.ow.lay, h3.ow.sw, h3.ow.ch, h3.ow.q, h3.ow.wne, h3.ow.inj, fun ha x hx => ⟨h3.ow.wide ha x hx, fun y => by omega⟩⟩, h3.swn, h3.layn, h3.qwn, h3.chn⟩
end
end Go.Proofs.Ytmllcfkgkkbkpaa
/-
  A row of 112 temporaries, taken apart.
-/
namespace Go.Proofs.Ytmllcfkgkkbkpaa
open Go
set_option maxRecDepth 100000 in
theorem array112 (T : Array Value) (h : T.size = 112) : ∃ v0 v1 v2 v3 v4 v5 v6 v7 v8 v9 v10 v11 v12 v13 v14 v15 v16 v17 v18 v19 v20 v21 v22 v23 v24 v25 v26 v27 v28 v29 v30 v31 v32 v33 v34 v35 v36 v37 v38 v39 v40 v41 v42 v43 v44 v45 v46 v47 v48 v49 v50 v51 v52 v53 v54 v55 v56 v57 v58 v59 v60 v61 v62 v63 v64 v65 v66 v67 v68 v69 v70 v71 v72 v73 v74 v75 v76 v77 v78 v79 v80 v81 v82 v83 v84 v85 v86 v87 v88 v89 v90 v91 v92 v93 v94 v95 v96 v97 v98 v99 v100 v101 v102 v103 v104 v105 v106 v107 v108 v109 v110 v111, T = #[v0, v1, v2, v3, v4, v5, v6, v7, v8, v9, v10, v11, v12, v13, v14, v15, v16, v17, v18, v19, v20, v21, v22, v23, v24, v25, v26, v27, v28, v29, v30, v31, v32, v33, v34, v35, v36, v37, v38, v39, v40, v41, v42, v43, v44, v45, v46, v47, v48, v49, v50, v51, v52, v53, v54, v55, v56, v57, v58, v59, v60, v61, v62, v63, v64, v65, v66, v67, v68, v69, v70, v71, v72, v73, v74, v75, v76, v77, v78, v79, v80, v81, v82, v83, v84, v85, v86, v87, v88, v89, v90, v91, v92, v93, v94, v95, v96, v97, v98, v99, v100, v101, v102, v103, v104, v105, v106, v107, v108, v109, v110, v111] := by
  obtain ⟨l⟩ := T
  rcases l with _ | ⟨v0, l⟩
  · simp at h
  rcases l with _ | ⟨v1, l⟩
  · simp at h
  rcases l with _ | ⟨v2, l⟩
  · simp at h
  rcases l with _ | ⟨v3, l⟩
  · simp at h
  rcases l with _ | ⟨v4, l⟩
  · simp at h
  rcases l with _ | ⟨v5, l⟩
  · simp at h
  rcases l with _ | ⟨v6, l⟩
  · simp at h
  rcases l with _ | ⟨v7, l⟩
  · simp at h
  rcases l with _ | ⟨v8, l⟩
  · simp at h
  rcases l with _ | ⟨v9, l⟩
  · simp at h
  rcases l with _ | ⟨v10, l⟩
  · simp at h
  rcases l with _ | ⟨v11, l⟩
  · simp at h
  rcases l with _ | ⟨v12, l⟩
  · simp at h
  rcases l with _ | ⟨v13, l⟩
  · simp at h
  rcases l with _ | ⟨v14, l⟩
  · simp at h
  rcases l with _ | ⟨v15, l⟩
  · simp at h
  rcases l with _ | ⟨v16, l⟩
  · simp at h
  rcases l with _ | ⟨v17, l⟩
  · simp at h
  rcases l with _ | ⟨v18, l⟩
  · simp at h
  rcases l with _ | ⟨v19, l⟩
  · simp at h
  rcases l with _ | ⟨v20, l⟩
  · simp at h
  rcases l with _ | ⟨v21, l⟩
  · simp at h
  rcases l with _ | ⟨v22, l⟩
  · simp at h
  rcases l with _ | ⟨v23, l⟩
  · simp at h
  rcases l with _ | ⟨v24, l⟩
  · simp at h
  rcases l with _ | ⟨v25, l⟩
  · simp at h
  rcases l with _ | ⟨v26, l⟩
  · simp at h
  rcases l with _ | ⟨v27, l⟩
  · simp at h
  rcases l with _ | ⟨v28, l⟩
  · simp at h
  rcases l with _ | ⟨v29, l⟩
  · simp at h
  rcases l with _ | ⟨v30, l⟩
  · simp at h
  rcases l with _ | ⟨v31, l⟩
  · simp at h
  rcases l with _ | ⟨v32, l⟩
  · simp at h
  rcases l with _ | ⟨v33, l⟩
  · simp at h
  rcases l with _ | ⟨v34, l⟩
  · simp at h
  rcases l with _ | ⟨v35, l⟩
  · simp at h
  rcases l with _ | ⟨v36, l⟩
  · simp at h
  rcases l with _ | ⟨v37, l⟩
  · simp at h
  rcases l with _ | ⟨v38, l⟩
  · simp at h
  rcases l with _ | ⟨v39, l⟩
  · simp at h
  rcases l with _ | ⟨v40, l⟩
  · simp at h
  rcases l with _ | ⟨v41, l⟩
  · simp at h
  rcases l with _ | ⟨v42, l⟩
  · simp at h
  rcases l with _ | ⟨v43, l⟩
  · simp at h
  rcases l with _ | ⟨v44, l⟩
  · simp at h
  rcases l with _ | ⟨v45, l⟩
  · simp at h
  rcases l with _ | ⟨v46, l⟩
  · simp at h
  rcases l with _ | ⟨v47, l⟩
  · simp at h
  rcases l with _ | ⟨v48, l⟩
  · simp at h
  rcases l with _ | ⟨v49, l⟩
  · simp at h
  rcases l with _ | ⟨v50, l⟩
  · simp at h
  rcases l with _ | ⟨v51, l⟩
  · simp at h
  rcases l with _ | ⟨v52, l⟩
  · simp at h
  rcases l with _ | ⟨v53, l⟩
  · simp at h
  rcases l with _ | ⟨v54, l⟩
  · simp at h
  rcases l with _ | ⟨v55, l⟩
  · simp at h
  rcases l with _ | ⟨v56, l⟩
  · simp at h
  rcases l with _ | ⟨v57, l⟩
  · simp at h
  rcases l with _ | ⟨v58, l⟩
  · simp at h
  rcases l with _ | ⟨v59, l⟩
  · simp at h
  rcases l with _ | ⟨v60, l⟩
  · simp at h
  rcases l with _ | ⟨v61, l⟩
  · simp at h
  rcases l with _ | ⟨v62, l⟩
  · simp at h
  rcases l with _ | ⟨v63, l⟩
  · simp at h
  rcases l with _ | ⟨v64, l⟩
  · simp at h
  rcases l with _ | ⟨v65, l⟩
  · simp at h
  rcases l with _ | ⟨v66, l⟩
  · simp at h
  rcases l with _ | ⟨v67, l⟩
  · simp at h
  rcases l with _ | ⟨v68, l⟩
  · simp at h
  rcases l with _ | ⟨v69, l⟩
  · simp at h
  rcases l with _ | ⟨v70, l⟩
  · simp at h
  rcases l with _ | ⟨v71, l⟩
  · simp at h
  rcases l with _ | ⟨v72, l⟩
  · simp at h
  rcases l with _ | ⟨v73, l⟩
  · simp at h
  rcases l with _ | ⟨v74, l⟩
  · simp at h
  rcases l with _ | ⟨v75, l⟩
  · simp at h
  rcases l with _ | ⟨v76, l⟩
  · simp at h
  rcases l with _ | ⟨v77, l⟩
  · simp at h
  rcases l with _ | ⟨v78, l⟩
  · simp at h
  rcases l with _ | ⟨v79, l⟩
  · simp at h
  rcases l with _ | ⟨v80, l⟩
  · simp at h
  rcases l with _ | ⟨v81, l⟩
  · simp at h
  rcases l with _ | ⟨v82, l⟩
  · simp at h
  rcases l with _ | ⟨v83, l⟩
  · simp at h
  rcases l with _ | ⟨v84, l⟩
  · simp at h
  rcases l with _ | ⟨v85, l⟩
  · simp at h
  rcases l with _ | ⟨v86, l⟩
  · simp at h
  rcases l with _ | ⟨v87, l⟩
  · simp at h
  rcases l with _ | ⟨v88, l⟩
  · simp at h
  rcases l with _ | ⟨v89, l⟩
  · simp at h
  rcases l with _ | ⟨v90, l⟩
  · simp at h
  rcases l with _ | ⟨v91, l⟩
  · simp at h
  rcases l with _ | ⟨v92, l⟩
  · simp at h
  rcases l with _ | ⟨v93, l⟩
  · simp at h
  rcases l with _ | ⟨v94, l⟩
  · simp at h
  rcases l with _ | ⟨v95, l⟩
  · simp at h
  rcases l with _ | ⟨v96, l⟩
  · simp at h
  rcases l with _ | ⟨v97, l⟩
  · simp at h
  rcases l with _ | ⟨v98, l⟩
  · simp at h
  rcases l with _ | ⟨v99, l⟩
  · simp at h
  rcases l with _ | ⟨v100, l⟩
  · simp at h
  rcases l with _ | ⟨v101, l⟩
  · simp at h
  rcases l with _ | ⟨v102, l⟩
  · simp at h
  rcases l with _ | ⟨v103, l⟩
  · simp at h
  rcases l with _ | ⟨v104, l⟩
  · simp at h
  rcases l with _ | ⟨v105, l⟩
  · simp at h
  rcases l with _ | ⟨v106, l⟩
  · simp at h
  rcases l with _ | ⟨v107, l⟩
  · simp at h
  rcases l with _ | ⟨v108, l⟩
  · simp at h
  rcases l with _ | ⟨v109, l⟩
  · simp at h
  rcases l with _ | ⟨v110, l⟩
  · simp at h
  rcases l with _ | ⟨v111, l⟩
  · simp at h
  rcases l with _ | ⟨x, l⟩
  · exact ⟨_, _, _, _, _, _, _, _, _, _, _, _, _, _, _, _, _, _, _, _, _, _, _, _, _, _, _, _, _, _, _, _, _, _, _, _, _, _, _, _, _, _, _, _, _, _, _, _, _, _, _, _, _, _, _, _, _, _, _, _, _, _, _, _, _, _, _, _, _, _, _, _, _, _, _, _, _, _, _, _, _, _, _, _, _, _, _, _, _, _, _, _, _, _, _, _, _, _, _, _, _, _, _, _, _, _, _, _, _, _, _, _, rfl⟩
  · simp at h
set_option maxRecDepth 100000 in
theorem cps112 {M : Prop} {T : Array Value} (hT : T.size = 112) (h : ∀ v0 v1 v2 v3 v4 v5 v6 v7 v8 v9 v10 v11 v12 v13 v14 v15 v16 v17 v18 v19 v20 v21 v22 v23 v24 v25 v26 v27 v28 v29 v30 v31 v32 v33 v34 v35 v36 v37 v38 v39 v40 v41 v42 v43 v44 v45 v46 v47 v48 v49 v50 v51 v52 v53 v54 v55 v56 v57 v58 v59 v60 v61 v62 v63 v64 v65 v66 v67 v68 v69 v70 v71 v72 v73 v74 v75 v76 v77 v78 v79 v80 v81 v82 v83 v84 v85 v86 v87 v88 v89 v90 v91 v92 v93 v94 v95 v96 v97 v98 v99 v100 v101 v102 v103 v104 v105 v106 v107 v108 v109 v110 v111, T = #[v0, v1, v2, v3, v4, v5, v6, v7, v8, v9, v10, v11, v12, v13, v14, v15, v16, v17, v18, v19, v20, v21, v22, v23, v24, v25, v26, v27, v28, v29, v30, v31, v32, v33, v34, v35, v36, v37, v38, v39, v40, v41, v42, v43, v44, v45, v46, v47, v48, v49, v50, v51, v52, v53, v54, v55, v56, v57, v58, v59, v60, v61, v62, v63, v64, v65, v66, v67, v68, v69, v70, v71, v72, v73, v74, v75, v76, v77, v78, v79, v80, v81, v82, v83, v84, v85, v86, v87, v88, v89, v90, v91, v92, v93, v94, v95, v96, v97, v98, v99, v100, v101, v102, v103, v104, v105, v106, v107, v108, v109, v110, v111] → M) : M := by
  obtain ⟨l⟩ := T
  rcases l with _ | ⟨v0, l⟩
  · simp at hT
  rcases l with _ | ⟨v1, l⟩
  · simp at hT
  rcases l with _ | ⟨v2, l⟩
  · simp at hT
  rcases l with _ | ⟨v3, l⟩
  · simp at hT
  rcases l with _ | ⟨v4, l⟩
  · simp at hT
  rcases l with _ | ⟨v5, l⟩
  · simp at hT
  rcases l with _ | ⟨v6, l⟩
  · simp at hT
  rcases l with _ | ⟨v7, l⟩
  · simp at hT
  rcases l with _ | ⟨v8, l⟩
  · simp at hT
  rcases l with _ | ⟨v9, l⟩
  · simp at hT
  rcases l with _ | ⟨v10, l⟩
  · simp at hT
  rcases l with _ | ⟨v11, l⟩
  · simp at hT
  rcases l with _ | ⟨v12, l⟩
  · simp at hT
  rcases l with _ | ⟨v13, l⟩
  · simp at hT
  rcases l with _ | ⟨v14, l⟩
  · simp at hT
  rcases l with _ | ⟨v15, l⟩
  · simp at hT
  rcases l with _ | ⟨v16, l⟩
  · simp at hT
  rcases l with _ | ⟨v17, l⟩
  · simp at hT
  rcases l with _ | ⟨v18, l⟩
  · simp at hT
  rcases l with _ | ⟨v19, l⟩
  · simp at hT
  rcases l with _ | ⟨v20, l⟩
  · simp at hT
  rcases l with _ | ⟨v21, l⟩
  · simp at hT
  rcases l with _ | ⟨v22, l⟩
  · simp at hT
  rcases l with _ | ⟨v23, l⟩
  · simp at hT
  rcases l with _ | ⟨v24, l⟩
  · simp at hT
  rcases l with _ | ⟨v25, l⟩
  · simp at hT
  rcases l with _ | ⟨v26, l⟩
  · simp at hT
  rcases l with _ | ⟨v27, l⟩
  · simp at hT
  rcases l with _ | ⟨v28, l⟩
  · simp at hT
  rcases l with _ | ⟨v29, l⟩
  · simp at hT
  rcases l with _ | ⟨v30, l⟩
  · simp at hT
  rcases l with _ | ⟨v31, l⟩
  · simp at hT
  rcases l with _ | ⟨v32, l⟩
  · simp at hT
  rcases l with _ | ⟨v33, l⟩
  · simp at hT
  rcases l with _ | ⟨v34, l⟩
  · simp at hT
  rcases l with _ | ⟨v35, l⟩
  · simp at hT
  rcases l with _ | ⟨v36, l⟩
  · simp at hT
  rcases l with _ | ⟨v37, l⟩
  · simp at hT
  rcases l with _ | ⟨v38, l⟩
  · simp at hT
  rcases l with _ | ⟨v39, l⟩
  · simp at hT
  rcases l with _ | ⟨v40, l⟩
  · simp at hT
  rcases l with _ | ⟨v41, l⟩
  · simp at hT
  rcases l with _ | ⟨v42, l⟩
  · simp at hT
  rcases l with _ | ⟨v43, l⟩
  · simp at hT
  rcases l with _ | ⟨v44, l⟩
  · simp at hT
  rcases l with _ | ⟨v45, l⟩
  · simp at hT
  rcases l with _ | ⟨v46, l⟩
  · simp at hT
  rcases l with _ | ⟨v47, l⟩
  · simp at hT
  rcases l with _ | ⟨v48, l⟩
  · simp at hT
  rcases l with _ | ⟨v49, l⟩
  · simp at hT
  rcases l with _ | ⟨v50, l⟩
  · simp at hT
  rcases l with _ | ⟨v51, l⟩
  · simp at hT
  rcases l with _ | ⟨v52, l⟩
  · simp at hT
  rcases l with _ | ⟨v53, l⟩
  · simp at hT
  rcases l with _ | ⟨v54, l⟩
  · simp at hT
  rcases l with _ | ⟨v55, l⟩
  · simp at hT
  rcases l with _ | ⟨v56, l⟩
  · simp at hT
  rcases l with _ | ⟨v57, l⟩
  · simp at hT
  rcases l with _ | ⟨v58, l⟩
  · simp at hT
  rcases l with _ | ⟨v59, l⟩
  · simp at hT
  rcases l with _ | ⟨v60, l⟩
  · simp at hT
  rcases l with _ | ⟨v61, l⟩
  · simp at hT
  rcases l with _ | ⟨v62, l⟩
  · simp at hT
  rcases l with _ | ⟨v63, l⟩
  · simp at hT
  rcases l with _ | ⟨v64, l⟩
  · simp at hT
  rcases l with _ | ⟨v65, l⟩
  · simp at hT
  rcases l with _ | ⟨v66, l⟩
  · simp at hT
  rcases l with _ | ⟨v67, l⟩
  · simp at hT
  rcases l with _ | ⟨v68, l⟩
  · simp at hT
  rcases l with _ | ⟨v69, l⟩
  · simp at hT
  rcases l with _ | ⟨v70, l⟩
  · simp at hT
  rcases l with _ | ⟨v71, l⟩
  · simp at hT
  rcases l with _ | ⟨v72, l⟩
  · simp at hT
  rcases l with _ | ⟨v73, l⟩
  · simp at hT
  rcases l with _ | ⟨v74, l⟩
  · simp at hT
  rcases l with _ | ⟨v75, l⟩
  · simp at hT
  rcases l with _ | ⟨v76, l⟩
  · simp at hT
  rcases l with _ | ⟨v77, l⟩
  · simp at hT
  rcases l with _ | ⟨v78, l⟩
  · simp at hT
  rcases l with _ | ⟨v79, l⟩
  · simp at hT
  rcases l with _ | ⟨v80, l⟩
  · simp at hT
  rcases l with _ | ⟨v81, l⟩
  · simp at hT
  rcases l with _ | ⟨v82, l⟩
  · simp at hT
  rcases l with _ | ⟨v83, l⟩
  · simp at hT
  rcases l with _ | ⟨v84, l⟩
  · simp at hT
  rcases l with _ | ⟨v85, l⟩
  · simp at hT
  rcases l with _ | ⟨v86, l⟩
  · simp at hT
  rcases l with _ | ⟨v87, l⟩
  · simp at hT
  rcases l with _ | ⟨v88, l⟩
  · simp at hT
  rcases l with _ | ⟨v89, l⟩
  · simp at hT
  rcases l with _ | ⟨v90, l⟩
  · simp at hT
  rcases l with _ | ⟨v91, l⟩
  · simp at hT
  rcases l with _ | ⟨v92, l⟩
  · simp at hT
  rcases l with _ | ⟨v93, l⟩
  · simp at hT
  rcases l with _ | ⟨v94, l⟩
  · simp at hT
  rcases l with _ | ⟨v95, l⟩
  · simp at hT
  rcases l with _ | ⟨v96, l⟩
  · simp at hT
  rcases l with _ | ⟨v97, l⟩
  · simp at hT
  rcases l with _ | ⟨v98, l⟩
  · simp at hT
  rcases l with _ | ⟨v99, l⟩
  · simp at hT
  rcases l with _ | ⟨v100, l⟩
  · simp at hT
  rcases l with _ | ⟨v101, l⟩
  · simp at hT
  rcases l with _ | ⟨v102, l⟩
  · simp at hT
  rcases l with _ | ⟨v103, l⟩
  · simp at hT
  rcases l with _ | ⟨v104, l⟩
  · simp at hT
  rcases l with _ | ⟨v105, l⟩
  · simp at hT
  rcases l with _ | ⟨v106, l⟩
  · simp at hT
  rcases l with _ | ⟨v107, l⟩
  · simp at hT
  rcases l with _ | ⟨v108, l⟩
  · simp at hT
  rcases l with _ | ⟨v109, l⟩
  · simp at hT
  rcases l with _ | ⟨v110, l⟩
  · simp at hT
  rcases l with _ | ⟨v111, l⟩
  · simp at hT
  rcases l with _ | ⟨x, l⟩
  · exact h _ _ _ _ _ _ _ _ _ _ _ _ _ _ _ _ _ _ _ _ _ _ _ _ _ _ _ _ _ _ _ _ _ _ _ _ _ _ _ _ _ _ _ _ _ _ _ _ _ _ _ _ _ _ _ _ _ _ _ _ _ _ _ _ _ _ _ _ _ _ _ _ _ _ _ _ _ _ _ _ _ _ _ _ _ _ _ _ _ _ _ _ _ _ _ _ _ _ _ _ _ _ _ _ _ _ _ _ _ _ _ _ rfl
  · simp at hT
end Go.Proofs.Ytmllcfkgkkbkpaa
/-
  The bytes of a text.
-/
namespace Go.Proofs.Ytmllcfkgkkbkpaa
open Go.RowKit

theorem bt_str (s : ByteArray) (k : Nat) (h : k < s.size) : bt s.data.toList k = (s[k].toNat : Int) := by
  rw [bt_get _ k (by rw [Array.length_toList]; exact h)]; rfl
theorem size_list (s : ByteArray) : s.data.toList.length = s.size := by rw [Array.length_toList]; rfl
theorem empty_size (s : ByteArray) : decide (0 < s.size) = !s.data.toList.isEmpty := by
  rw [← size_list]; cases s.data.toList <;> simp
theorem byte_le (s : ByteArray) (k : Nat) (h : k < s.size) : 0 ≤ (s[k].toNat : Int) ∧ (s[k].toNat : Int) ≤ 255 := by
  have := s[k].toNat_lt; omega
end Go.Proofs.Ytmllcfkgkkbkpaa
