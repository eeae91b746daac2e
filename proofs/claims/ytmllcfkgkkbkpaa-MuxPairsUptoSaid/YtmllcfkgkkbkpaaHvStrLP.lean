/-
  Stream's CLOSURE, pairs: its first loop starts the sources, beside others that make blocks.
-/
import Derived.Test.YtmllcfkgkkbkpaaPk7
import Derived.Test.YtmllcfkgkkbkpaaHvStrL
namespace Go.Proofs.Ytmllcfkgkkbkpaa
open Go Go.Conc Go.RowKit Go.Conc.Lib Go.ConcR.Gen
open Go.ConcN (upd upd_ne upd_same WgLive)
open Go.ConcR (KK wgBlock WgAt stA smA rd wr mk DC0)
/-- As Gw, but that a row of the starter's own may have been written to. -/
structure Gx (row : Option Nat) (σ : Ph) (w : World) (σ1 : Ph) (w1 : World) : Prop where
  same : σ1 = { σ with F := σ1.F }
  f0 : ∀ x, σ.F x → σ1.F x
  f1 : ∀ x, σ1.F x → σ.F x ∨ (w.heap.size ≤ x ∧ x < w1.heap.size)
  low : ∀ x, x < w.heap.size → some x ≠ row → w1.heap[x]? = w.heap[x]?
  size : w.heap.size ≤ w1.heap.size
  os : w1.os = w.os
  output : w1.output = w.output
section
variable {P : Program} {ty : TypeId} {z z' : Value} {Post : Value → World → Prop} {σ σ1 σ2 : Ph} {pw pw1 pw2 : World} {fn : Frame → Prop} {Q : Exit → Act → Ph → World → Prop} {a : Act} {pt : TypeId → Bool} {S : FuncId → Bool} {cv : TypeId → TypeId → Bool} {row : Option Nat}
theorem Gw.x (h : Gw σ pw σ1 pw1) : Gx row σ pw σ1 pw1 := ⟨h.same, h.f0, h.f1, fun x hx _ => h.low x hx, h.size, h.os, h.output⟩
theorem Gx.then (h : Gx row σ pw σ1 pw1) (hl : ∀ x, x < pw1.heap.size → some x ≠ row → pw2.heap[x]? = pw1.heap[x]?) (hs : pw1.heap.size ≤ pw2.heap.size) (ho : pw2.os = pw1.os) (hu : pw2.output = pw1.output) : Gx row σ pw σ1 pw2 :=
  ⟨h.same, h.f0, fun y hy => (h.f1 y hy).imp _root_.id fun k => ⟨k.1, by omega⟩, fun y hy hr => (hl y (by have := h.size; omega) hr).trans (h.low y hy hr), Nat.le_trans h.size hs, ho.trans h.os, hu.trans h.output⟩
theorem Gx.hG (h : Gx row σ pw σ1 pw1) (hgs : P.globals.size ≤ pw.heap.size) (hG : ∀ b, σ.F b → P.globals.size ≤ b ∧ b < pw.heap.size) : ∀ b, σ1.F b → P.globals.size ≤ b ∧ b < pw1.heap.size := fun b hb => by
  have h1 := h.size
  rcases h.f1 b hb with hb | hb
  · have := hG b hb
    exact ⟨this.1, by omega⟩
  · exact ⟨by omega, hb.2⟩
theorem Gx.nF (h : Gx row σ pw σ1 pw1) {x : Nat} (hx : ¬ σ.F x) (hl : x < pw.heap.size) : ¬ σ1.F x := fun y => (h.f1 x y).elim hx fun k => by omega
/-- ████ append. ████ -/
theorem opsW_app (C : CalmOn pt S cv P) (hGW : ∀ b, σ.F b → P.globals.size ≤ b ∧ b < pw.heap.size) (hgs : P.globals.size ≤ pw.heap.size) {ops : Array Oper} {i : Nat} {rest : List Nat} {o : Oper} {s x : Operand} {t tx : TypeId} (ho : ops[i]? = some o) (hw : Region.wanted o (yielded ops a.tmps) = true) (hop : o.op = .call { callee := .builtin .append, args := #[s, x], argTypes := #[t, tx] })
    (base : Nat) {e : TypeId} {z0 : Value} {size bytes : Nat} (ht : P.underlying t = some (.slice e)) (hi : (P.info? e).map (fun i => (i.zero, i.size, i.bytes)) = some (some z0, size, bytes)) (hzs : z0.cells.size = size)
    {v : Value} {n : Nat} {xs : List Value} (hv : a.eval s = v) (hown : pw.ownsRow base e size v n xs) {y : Value} {m : Nat} {news : List Value} (hx : a.eval x = y) (hs : ∀ κ t d, Src P size tx y m news ((grW P pw κ).re t d))
    (h63 : n + m ≤ maxLen) (hbytes : (n + m + (n + m) / 4 + 512) * bytes ≤ 281474976710656) (hbase : base ≤ pw.heap.size)
    (h : ∀ v' σ1 pw', pw'.ownsRow base e size v' (n + m) (xs ++ news) → Gx v.ownBlock σ pw σ1 pw' → (v'.ownBlock = v.ownBlock ∨ ∃ g, v'.ownBlock = some g ∧ pw.heap.size ≤ g ∧ ¬ σ1.F g) → OpsW P ty z z' Post fn ops rest Q (a.put o.dst v') σ1 pw') : OpsW P ty z z' Post fn ops (i :: rest) Q a σ pw := by
  refine opsW_k C (fun b hb => (hGW b hb).1) hgs ho hw (by rw [hop]; rfl) fun κ td d K hK => ?_
  obtain ⟨i, hi, hz, hz1, hz2⟩ := info_parts hi
  have hown' : (grW P pw κ).ownsRow base e size v n xs := owns_keep hown fun g hg _ => grW_low hg
  obtain ⟨v', w', hr, h2, h3, h4⟩ := run_append_where (P := P) ((grW P pw κ).re td d) base t tx o.type e i z0 size bytes ht hi hz hz1 hz2 hzs v n xs (owns_re hown') y m news (hs κ td d) h63 (fun old hold => Nat.le_trans (Nat.mul_le_mul_right _ (nextslicecap_le _ _ hold)) hbytes) (by show base ≤ (grW P pw κ).heap.size; rw [grW_size]; omega)
  unfold execOp
  simp only [hop, resolve, invoke, builtin, Sem.run_bind, Sem.run_pure, Result.andThen_ok, List.map_toArray, List.map_cons, List.map_nil, hv, hx, hr]
  obtain ⟨g1, g2, g3, g4⟩ := grown_re h3
  refine hK _ _ (h v' _ w' h2 ((Gw.x Gw.gr).then g4 g3 g1 g2) ?_)
  rcases h4 with ⟨g, cap, rfl, rfl⟩ | ⟨cap, rfl, _⟩ | ⟨rfl, _, _⟩
  · exact .inl rfl
  · refine .inr ⟨(grW P pw κ).heap.size, rfl, by rw [grW_size]; omega, fun hF => ?_⟩
    rw [grW_size] at hF
    rcases hF with hF | hF
    · have := (hGW _ hF).2; omega
    · omega
  · exact .inl rfl
end
end Go.Proofs.Ytmllcfkgkkbkpaa
namespace Go.Proofs.Ytmllcfkgkkbkpaa.Pr
open Go Go.Conc Go.RowKit Go.Conc.Lib Go.ConcR.Gen
open Go.ConcN (upd upd_ne upd_same WgLive)
open Go.ConcR (KK wgBlock WgAt stA smA rd wr mk DC0)
section
variable {z z' : Value} {Post : Value → World → Prop} {σ : Ph} {pw : World} {c : Frame} {cs : List Frame}
/-- The group's Add(1), from its entry. -/
theorem strAdd (ht : σ.tag = .opn false) (hF : σ.F σ.Wg) (hn : MW Try.prog wtG z z' Post { σ with tag := .opn true } (G (c.finish (.tuple #[])) cs) pw) :
    MW Try.prog wtG z z' Post σ (G (Frame.enter Try.prog 24 #[.pointer (some ⟨σ.Wg, 0, none⟩), .int .i64 1] .normal) (c :: cs)) pw := by
  have he : Frame.enter Try.prog 24 #[.pointer (some ⟨σ.Wg, 0, none⟩), .int .i64 1] .normal = (base wgl.add).at { tmps := #[.pointer (some ⟨σ.Wg, 0, none⟩), .int .i64 1] ++ Array.replicate (117 - (#[.pointer (some ⟨σ.Wg, 0, none⟩), .int .i64 1] : Array Value).size) undef, defers := [] } [.code (body_add wgl)] := by
    rw [← ntAdd]
    simp [Frame.enter, Frame.at, Try.func24, bodyAdd]
    exact ⟨rfl, rfl⟩
  rw [he, app117]
  exact mw_add wgLib ht hF (fun w hl => addPosX (P := Try.prog) (L := wgl) wgLib (fun _ _ r => r.2) (fun _ _ => rfl) w hl) hn
end
/-- The phase while the sources are being started. -/
structure Ph1 (σ0 : Ph) (w0 : World) (lists : List (List PV)) (j : Nat) (σ : Ph) (w : World) : Prop where
  first : σ.first = σ0.first
  n : σ.n = j
  wg : σ.Wg = σ0.Wg
  quit : σ.quit = σ0.quit
  closed : σ.closed = false
  tag : σ.tag = .opn false
  d0 : σ.d0 = 0
  al : σ.al = false
  room : σ.room + j = σ0.room
  sw : σ.SW = σ0.SW
  lay : ∀ x o, σ0.lay x = some o → σ.lay x = some o
  rem : ∀ i items, i < j → lists[i]? = some items → σ.rem (σ0.first + i) = items.map prv
  f0 : ∀ x, σ0.F x → σ.F x
  fb : ∀ x, σ.F x → Try.prog.globals.size ≤ x ∧ x < w.heap.size
  layb : ∀ x, (σ.lay x).isSome = true → x < w.heap.size
  low : ∀ x, x < w0.heap.size → w.heap[x]? = w0.heap[x]?
  size : w0.heap.size ≤ w.heap.size
  os : w.os = w0.os
  output : w.output = w0.output
  f1 : ∀ x, σ.F x → σ0.F x ∨ w0.heap.size ≤ x
  layF : ∀ x, (σ.lay x).isSome = true → σ.F x
/-- The lists to be merged, as the closure finds them. -/
structure OwnAt (σ : Ph) (w : World) (ao : Option Addr) (N : Nat) (lists : List (List PV)) : Prop where
  len : lists.length = N
  small : N < 1000000
  row : ∀ i items, lists[i]? = some items → ∃ ad a0 n c, ao = some ad ∧ ad.block < w.heap.size ∧ w.cell? (ad.add i) = some (.slice a0 n c) ∧ ItemsAt σ a0 n items
theorem ItemsAt.mono {σ σ' : Ph} {a0 : Option Addr} {n : Nat} {items : List PV} (h : ItemsAt σ a0 n items) (hl : ∀ x o, σ.lay x = some o → σ'.lay x = some o) (hs : σ'.SW = σ.SW) : ItemsAt σ' a0 n items :=
  ⟨h.len, h.small, h.nil, h.shape, fun b o h1 h2 => let ⟨ob, h3, h4, h5⟩ := h.row b o h1 h2; ⟨ob, hl _ _ h3, by rw [hs]; exact h4, h5⟩⟩
theorem nmSrc : (Try.f30.name == "runtime.NumGoroutine") = false := by kernel_rfl
noncomputable def loopT1 : Code := match blockT1 with
  | .block _ (.loop c) => c
  | _ => .skip
abbrev tC : TypeId := 68
/-- At the head of the first loop, j sources started. -/
def Inv1 (σ0 : Ph) (w0 : World) (l bo bp : Nat) (ao : Option Addr) (N cap : Nat) (lists : List (List PV)) (j : Nat) (a : Act) (σ : Ph) (w : World) : Prop :=
  ∃ (T : Array Value) (c6 c7 : Value), a = ⟨T, [dCloseA #[58] σ0.quit, dcall 23 #[.pointer (some ⟨σ0.Wg, 0, none⟩)]]⟩ ∧ T.size = 75 ∧
    T[0]? = some (.func (.yield l) #[] #[]) ∧ T[1]? = some (.pointer (some ⟨bo, 0, none⟩)) ∧ T[2]? = some (.pointer (some ⟨bp, 0, none⟩)) ∧ T[4]? = some (.pointer (some ⟨σ0.Wg, 0, none⟩)) ∧ T[5]? = some (.chan (some σ0.quit)) ∧
    T[6]? = some c6 ∧ T[7]? = some c7 ∧ T[17]? = some (.slice ao N cap) ∧ T[18]? = some (.int .i64 N) ∧ T[19]? = some (.int .i64 j) ∧
    w.ownsRow w0.heap.size tC 1 c6 j ((List.range j).map fun i => .chan (some (σ.ch (σ0.first + i)))) ∧ w.ownsRow w0.heap.size 3 1 c7 j ((lists.take j).map fun x => .int .i64 x.length) ∧ (∀ g, c6.ownBlock = some g → ¬ σ.F g) ∧ (∀ g, c7.ownBlock = some g → ¬ σ.F g) ∧ Ph1 σ0 w0 lists j σ w
section
variable {σ σ0 σ1 : Ph} {pw w0 w w' : World} {lists : List (List PV)} {j : Nat} {row : Option Nat}
theorem Ph1.gx (h : Ph1 σ0 w0 lists j σ w) (hgs : Try.prog.globals.size ≤ w0.heap.size) (g : Gx row σ w σ1 w') (hr : ∀ x, row = some x → w0.heap.size ≤ x) : Ph1 σ0 w0 lists j σ1 w' := by
  have hs := h.size
  have hz := g.size
  obtain ⟨FX, rfl⟩ : ∃ F, σ1 = { σ with F := F } := ⟨_, g.same⟩
  exact ⟨h.first, h.n, h.wg, h.quit, h.closed, h.tag, h.d0, h.al, h.room, h.sw, h.lay, h.rem, fun x hx => g.f0 x (h.f0 x hx), fun x hx => by
    rcases g.f1 x hx with y | y
    · have := h.fb x y; exact ⟨this.1, by omega⟩
    · exact ⟨by omega, y.2⟩, fun x hx => by have := h.layb x hx; omega, fun x hx => (g.low x (by omega) fun e => by have := hr x e.symm; omega).trans (h.low x hx), by omega, g.os.trans h.os, g.output.trans h.output, fun x hx => by
    rcases g.f1 x hx with y | y
    · exact h.f1 x y
    · exact .inr (by omega), fun x hx => g.f0 x (h.layF x hx)⟩
theorem Ph1.src {items : List PV} {ch : Nat} (hp : Ph1 σ0 w0 lists j σ w) (hgs : Try.prog.globals.size ≤ w0.heap.size) (hit : lists[j]? = some items) (hr1 : 1 ≤ σ.room) (h : Sr { σ with tag := .opn true } w σ1 w' ch (items.map prv) (σ.room - 1)) : Ph1 σ0 w0 lists (j + 1) σ1 w' := by
  have hs := hp.size
  have hz := h.size
  refine ⟨h.first.trans hp.first, ?_, h.wg.trans hp.wg, h.quit.trans hp.quit, h.closed.trans hp.closed, h.tag, h.d0.trans hp.d0, h.al.trans hp.al, ?_, h.sw.trans hp.sw, fun x o hx => h.lay x o (hp.lay x o hx), fun i it hi hl => ?_, fun x hx => h.f0 x (hp.f0 x hx), fun x hx => ?_, fun x hx => ?_, fun x hx => (h.low x (by omega)).trans (hp.low x hx), by omega, h.os.trans hp.os, h.output.trans hp.output, fun x hx => ?_, fun x hx => ?_⟩
  · rw [h.n]; show σ.n + 1 = _; rw [hp.n]
  · rw [h.room]; have := hp.room; omega
  · rw [h.rem]
    show upd σ.rem (σ.first + σ.n) _ _ = _
    rw [hp.first, hp.n]
    by_cases e : i = j
    · subst e
      rw [upd_same]
      rw [hit] at hl
      rw [Option.some.inj hl]
    · rw [upd_ne _ _ (by omega)]
      exact hp.rem i it (by omega) hl
  · rcases h.f1 x hx with y | y
    · have := hp.fb x y; exact ⟨this.1, by omega⟩
    · exact ⟨by omega, y.2⟩
  · rcases h.layb x hx with y | y
    · have := hp.layb x y; omega
    · exact y.2.1
  · rcases h.f1 x hx with y | y
    · exact hp.f1 x y
    · exact .inr (by omega)
  · rcases h.layb x hx with y | y
    · exact h.f0 x (hp.layF x y)
    · exact y.2.2
end
section
theorem src_cell {w : World} {tx e : TypeId} {x : Value} {e' : TypeId} {s : Nat} (hk : Try.prog.underlying tx = some (.slice e')) (h1 : x.oneCell' = true) (hx : w.heap[s]? = some (.cells #[x] e)) : Src Try.prog 1 tx (.slice (some ⟨s, 0, none⟩) 1 1) 1 [x] w := by
  refine Src.ofSlice _ hk _ _ _ _ rfl (fun j u hj => ?_) (fun u hu => ?_)
  · cases j with
    | zero =>
      have : x = u := by simpa using hj
      subst this
      exact (cell_row1 hx).1
    | succ j => simp at hj
  · have : u = x := by simpa using hu
    subst this
    exact h1
end
section
variable {Post : Value → World → Prop} {σ σ0 : Ph} {pw w0 : World} {Q : Exit → Act → Ph → World → Prop} {fn : Frame → Prop} {l bo bp N cap j : Nat} {ao : Option Addr} {lists : List (List PV)} {a : Act}
/-- What an append onto one of the starter's rows leaves of another row. -/
theorem owns_gx {w w' : World} {σ σ' : Ph} {b b' : Nat} {e e' : TypeId} {s s' n n' : Nat} {v v' : Value} {xs xs' : List Value} (h' : w.ownsRow b' e' s' v' n' xs') (h : w.ownsRow b e s v n xs) (hne : e ≠ e') (g : Gx v.ownBlock σ w σ' w') : w'.ownsRow b' e' s' v' n' xs' :=
  owns_keep h' fun x hx hg => g.low x hx (owns_apart h h' hne x hg)
theorem nF_gx {w w' : World} {σ σ' : Ph} {b : Nat} {e : TypeId} {s n : Nat} {v : Value} {xs : List Value} {row : Option Nat} (h : w.ownsRow b e s v n xs) (hn : ∀ g, v.ownBlock = some g → ¬ σ.F g) (g : Gx row σ w σ' w') : ∀ x, v.ownBlock = some x → ¬ σ'.F x := fun x hx => g.nF (hn x hx) (by
  rcases h.2 with ⟨rfl, _⟩ | ⟨g1, _, _, rfl, _, h1, _⟩
  · cases hx
  · have : g1 = x := by simpa [Value.ownBlock] using hx
    subst this
    exact (Array.getElem?_eq_some_iff.1 h1).1)
theorem own_ge {w : World} {b : Nat} {e : TypeId} {s n : Nat} {v : Value} {xs : List Value} (h : w.ownsRow b e s v n xs) : ∀ x, v.ownBlock = some x → b ≤ x := fun x hx => by
  rcases h.2 with ⟨rfl, _⟩ | ⟨g1, _, _, rfl, hb, h1, _⟩
  · cases hx
  · have : g1 = x := by simpa [Value.ownBlock] using hx
    subst this
    exact hb
set_option maxRecDepth 100000 in
set_option maxHeartbeats 4000000 in
/-- A ROUND OF THE FIRST LOOP. -/
theorem strRound (hO : OwnAt σ0 w0 ao N lists) (hSW : ∀ b, σ0.SW b → b < w0.heap.size) (hgs0 : Try.prog.globals.size ≤ w0.heap.size) (hFw : σ0.F σ0.Wg) (hroom : N ≤ σ0.room) (hj : j ≤ N) (hI : Inv1 σ0 w0 l bo bp ao N cap lists j a σ pw)
    (hx : ∀ a', j = N → Inv1 σ0 w0 l bo bp ao N cap lists N a' σ pw → Q (.exit 0) a' σ pw) :
    wpW Try.prog wtG zI zS Post fn loopT1 (thenM (fun a' σ' pw' => j < N ∧ Inv1 σ0 w0 l bo bp ao N cap lists (j + 1) a' σ' pw') Q) a σ pw := by
  obtain ⟨T, c6, c7, rfl, hT, t0, t1, t2, t4, t5, t6, t7, t17, t18, t19, own6, own7, nf6, nf7, hp⟩ := hI
  obtain ⟨v0, v1, v2, v3, v4, v5, v6, v7, v8, v9, v10, v11, v12, v13, v14, v15, v16, v17, v18, v19, v20, v21, v22, v23, v24, v25, v26, v27, v28, v29, v30, v31, v32, v33, v34, v35, v36, v37, v38, v39, v40, v41, v42, v43, v44, v45, v46, v47, v48, v49, v50, v51, v52, v53, v54, v55, v56, v57, v58, v59, v60, v61, v62, v63, v64, v65, v66, v67, v68, v69, v70, v71, v72, v73, v74, rfl⟩ := array75 T hT
  simp only [List.getElem?_toArray, List.getElem?_cons_zero, List.getElem?_cons_succ, Option.some.injEq] at t0 t1 t2 t4 t5 t6 t7 t17 t18 t19
  subst t0 t1 t2 t4 t5 t6 t7 t17 t18 t19
  have hGW : ∀ b, σ.F b → Try.prog.globals.size ≤ b ∧ b < pw.heap.size := hp.fb
  have hgs : Try.prog.globals.size ≤ pw.heap.size := by have := hp.size; omega
  simp only [loopT1, blockT1, bodyT, Try.f29, Option.getD_some]
  refine wpW_seq (wpW_region ?_)
  simp only [List.size_toArray, List.length_cons, List.length_nil, Nat.zero_add, List.range, List.range.loop]
  by_cases hjN : j < N
  · have hlt : decide ((j : Int) < (N : Int)) = true := by simp; exact hjN
    refine opsW_read calmM hGW hgs rfl rfl rfl (fun κ t d K hK => ?_)
    go_simp
    refine hK _ ?_
    clear hK
    walk_nrm
    refine opsW_nil ?_
    show wpW _ _ _ _ _ _ _ _ _ _ _
    refine wpW_seq (wpW_cond (t := true) (by first | rfl | (simp [Act.eval]; omega)) ?_)
    simp only [↓reduceIte]
    refine wpW_skip ?_
    show wpW _ _ _ _ _ _ _ _ _ _ _
    refine wpW_seq (wpW_block (wpW_seq (wpW_region ?_)))
    simp only [List.size_toArray, List.length_cons, List.length_nil, Nat.reduceAdd, Nat.zero_add, List.range, List.range.loop]
    obtain ⟨items, hit⟩ : ∃ items, lists[j]? = some items := ⟨_, List.getElem?_eq_getElem (by rw [hO.len]; exact hjN)⟩
    obtain ⟨ad, a0, n, c0, rfl, hbl, hcell, hitems⟩ := hO.row j items hit
    have hcell' : pw.cell? (ad.add j) = some (.slice a0 n c0) := (World.cell?_of_block (by rw [add_blk]; exact hp.low _ hbl)).trans hcell
    have hjN' : (j : Int) < (N : Int) := by omega
    refine opsW_read calmM hGW hgs rfl rfl rfl (fun κ t d K hK => ?_)
    go_simp
    refine hK _ ?_
    clear hK
    walk_nrm
    refine opsW_read calmM hGW hgs rfl rfl rfl (fun κ t d K hK => ?_)
    have hx := grW_cell (P := Try.prog) (k := κ) hcell' (t := t) (d := d)
    go_simp
    refine hK _ ?_
    clear hK hx
    walk_nrm
    refine opsW_read calmM hGW hgs rfl rfl rfl (fun κ t d K hK => ?_)
    go_simp
    refine hK _ ?_
    clear hK
    walk_nrm
    refine opsW_nil ?_
    show wpW _ _ _ _ _ _ _ _ _ _ _
    refine wpW_seq (wpW_region ?_)
    simp only [List.size_toArray, List.length_cons, List.length_nil, Nat.zero_add, List.range, List.range.loop]
    refine opsW_enter (f := 24) rfl rfl (by intro c e; cases e) (fun w => run_enterOp rfl Try.func24 nmAdd rfl w) (fun base cs hb => ?_)
    walk_nrm
    have hadd := strAdd (z := zI) (z' := zS) (Post := Post) (σ := σ) (pw := pw) (c := base) (cs := cs) hp.tag (by rw [hp.wg]; exact hp.f0 _ hFw) (hb _ _ _ ?_)
    · rw [hp.wg] at hadd
      exact hadd
    clear hb
    walk_nrm
    refine opsW_nil ?_
    show wpW _ _ _ _ _ _ _ _ _ _ _
    refine wpW_seq (wpW_region ?_)
    simp only [List.size_toArray, List.length_cons, List.length_nil, Nat.reduceAdd, Nat.zero_add, List.range, List.range.loop]
    replace hGW : ∀ b, ({ σ with tag := .opn true } : Ph).F b → Try.prog.globals.size ≤ b ∧ b < pw.heap.size := hGW
    refine opsW_read calmM hGW hgs rfl rfl rfl (fun κ t d K hK => ?_)
    go_simp
    refine hK _ ?_
    clear hK
    walk_nrm
    refine opsW_read calmM hGW hgs rfl rfl rfl (fun κ t d K hK => ?_)
    go_simp
    refine hK _ ?_
    clear hK
    walk_nrm
    refine opsW_read calmM hGW hgs rfl rfl rfl (fun κ t d K hK => ?_)
    go_simp
    refine hK _ ?_
    clear hK
    walk_nrm
    refine opsW_read calmM hGW hgs rfl rfl rfl (fun κ t d K hK => ?_)
    go_simp
    refine hK _ ?_
    clear hK
    walk_nrm
    refine opsW_enter (f := 30) rfl rfl (by intro c e; cases e) (fun w => run_enterOp rfl Try.func30 nmSrc rfl w) (fun base cs hb => ?_)
    walk_nrm
    have hr1 : σ.room = σ.room - 1 + 1 := by have := hp.room; omega
    have hsz := hp.size
    suffices hsuf : ∀ σ1 w1 ch, Sr { σ with tag := .opn true } pw σ1 w1 ch (items.map prv) (σ.room - 1) → OpsW Try.prog wtG zI zS Post fn _ _ _ _ σ1 w1 by
      have hsrc := srcM (Post := Post) (σ := { σ with tag := .opn true }) (pw := pw) (c := base) (cs := cs) (a0 := a0) (n := n) (cap := c0) (room := σ.room - 1) (items := items) hGW hgs (fun b hb => by have := hSW b (by rw [← hp.sw]; exact hb); omega) hp.layb rfl hp.closed hp.d0 hr1 (hitems.mono (σ' := { σ with tag := .opn true }) hp.lay hp.sw) (fun σ1 w1 ch hsr => hb _ _ _ (hsuf σ1 w1 ch hsr))
      rw [← hp.quit, ← hp.wg]
      exact hsrc
    intro σ1 w1 ch hsr
    clear hb
    walk_nrm
    have hp1 := hp.src hgs0 hit (by omega) hsr
    have own6' := owns_keep (w' := w1) own6 (fun g hg _ => hsr.low g hg)
    have own7' := owns_keep (w' := w1) own7 (fun g hg _ => hsr.low g hg)
    have nfs : ∀ {b : Nat} {e : TypeId} {s n : Nat} {v : Value} {xs : List Value}, pw.ownsRow b e s v n xs → (∀ g, v.ownBlock = some g → ¬ σ.F g) → ∀ x, v.ownBlock = some x → ¬ σ1.F x := fun {b e s n v xs} h hn x hx hF => by
      rcases hsr.f1 x hF with y | y
      · exact hn x hx y
      · rcases h.2 with ⟨rfl, _⟩ | ⟨g1, _, _, rfl, _, h1, _⟩
        · cases hx
        · have : g1 = x := by simpa [Value.ownBlock] using hx
          have := (Array.getElem?_eq_some_iff.1 h1).1
          omega
    have nf6' := nfs own6 nf6
    have nf7' := nfs own7 nf7
    have hch : ∀ i, σ1.ch (σ0.first + i) = if i = j then ch else σ.ch (σ0.first + i) := fun i => by
      rw [hsr.ch]
      show upd σ.ch (σ.first + σ.n) ch (σ0.first + i) = _
      rw [hp.first, hp.n]
      by_cases e : i = j
      · subst e; rw [upd_same, if_pos rfl]
      · rw [upd_ne _ _ (by omega), if_neg e]
    clear hsr nfs
    have hz1 := hp1.size
    refine opsW_new (ob := .cells #[.chan (some ch)] tC) (f := fun s => .slice (some ⟨s, 0, none⟩) 1 1) (fun x hx => (hp1.fb x hx).2) rfl rfl rfl (by simp) (fun w => ⟨by go_simp, by simp [go_sem]⟩) fun σ2 w2 s2 g2 h2 f2 l2 z2 => ?_
    walk_nrm
    have hp2 := hp1.gx hgs0 (g2.x (row := none)) (by simp)
    have own6q := owns_keep (w' := w2) own6' (fun g hg _ => g2.low g hg)
    have own7q := owns_keep (w' := w2) own7' (fun g hg _ => g2.low g hg)
    have nf6q := nF_gx own6' nf6' (g2.x (row := none))
    have nf7q := nF_gx own7' nf7' (g2.x (row := none))
    have e2 : σ2.ch = σ1.ch := by rw [g2.same]
    have hz2 := hp2.size
    refine opsW_app calmM hp2.fb (by omega) rfl rfl rfl w0.heap.size (v := v6) (e := tC) (z0 := .chan none) (size := 1) (bytes := 8) Try.underlying67 rfl rfl rfl own6q rfl (fun κ t d => src_cell Try.underlying67 rfl ((grW_at (by omega)).trans h2)) (by have := hO.small; simp only [maxLen]; omega) (by have := hO.small; omega) hz2 (fun c6' σ3 w3 own6n g3 b3 => ?_)
    have own7n := owns_gx own7q own6q (by decide) g3
    have nf7n := nF_gx own7q nf7q g3
    have nf6n : ∀ g, c6'.ownBlock = some g → ¬ σ3.F g := fun g hg => by
      rcases b3 with e | ⟨g', e, _, hn⟩
      · rw [e] at hg
        exact nF_gx own6q nf6q g3 g hg
      · rw [e] at hg
        cases hg
        exact hn
    have hp3 := hp2.gx hgs0 g3 fun x e => own_ge own6q x e
    have e3 : σ3.ch = σ1.ch := by rw [g3.same]; exact e2
    have hz3 := hp3.size
    clear g3 b3 own6q own7q nf6q nf7q e2 g2 h2 f2 l2 z2 hp2 hz2 hp1 own6' own7' nf6' nf7' hz1
    have hgs3 : Try.prog.globals.size ≤ w3.heap.size := by omega
    replace hGW := hp3.fb
    walk_nrm
    refine opsW_read calmM hGW hgs3 rfl rfl rfl (fun κ t d K hK => ?_)
    go_simp
    refine hK _ ?_
    clear hK
    walk_nrm
    refine opsW_nil ?_
    show wpW _ _ _ _ _ _ _ _ _ _ _
    refine wpW_region ?_
    simp only [List.size_toArray, List.length_cons, List.length_nil, Nat.reduceAdd, Nat.zero_add, List.range, List.range.loop]
    refine opsW_read calmM hGW hgs3 rfl rfl rfl (fun κ t d K hK => ?_)
    go_simp
    refine hK _ ?_
    clear hK
    walk_nrm
    refine opsW_read calmM hGW hgs3 rfl rfl rfl (fun κ t d K hK => ?_)
    go_simp
    refine hK _ ?_
    clear hK
    walk_nrm
    refine opsW_read calmM hGW hgs3 rfl rfl rfl (fun κ t d K hK => ?_)
    go_simp
    refine hK _ ?_
    clear hK
    walk_nrm
    refine opsW_new (ob := .cells #[.int .i64 n] 3) (f := fun s => .slice (some ⟨s, 0, none⟩) 1 1) (fun x hx => (hp3.fb x hx).2) rfl rfl rfl (by simp) (fun w => ⟨by go_simp, by simp [go_sem]⟩) fun σ4 w4 s4 g4 h4 f4 l4 z4 => ?_
    walk_nrm
    have hp4 := hp3.gx hgs0 (g4.x (row := none)) (by simp)
    have own6q := owns_keep (w' := w4) own6n (fun g hg _ => g4.low g hg)
    have own7q := owns_keep (w' := w4) own7n (fun g hg _ => g4.low g hg)
    have nf6q := nF_gx own6n nf6n (g4.x (row := none))
    have nf7q := nF_gx own7n nf7n (g4.x (row := none))
    have e4 : σ4.ch = σ1.ch := by rw [g4.same]; exact e3
    have hz4 := hp4.size
    refine opsW_app calmM hp4.fb (by omega) rfl rfl rfl w0.heap.size (v := v7) (e := 3) (z0 := .int .i64 0) (size := 1) (bytes := 8) Try.underlying23 rfl rfl rfl own7q rfl (fun κ t d => src_cell Try.underlying23 rfl ((grW_at (by omega)).trans h4)) (by have := hO.small; simp only [maxLen]; omega) (by have := hO.small; omega) hz4 (fun c7' σ5 w5 own7m g5 b5 => ?_)
    have own6m := owns_gx own6q own7q (by decide) g5
    have nf6m := nF_gx own6q nf6q g5
    have nf7m : ∀ g, c7'.ownBlock = some g → ¬ σ5.F g := fun g hg => by
      rcases b5 with e | ⟨g', e, _, hn⟩
      · rw [e] at hg
        exact nF_gx own7q nf7q g5 g hg
      · rw [e] at hg
        cases hg
        exact hn
    have hp5 := hp4.gx hgs0 g5 fun x e => own_ge own7q x e
    have e5 : σ5.ch = σ1.ch := by rw [g5.same]; exact e4
    have hz5 := hp5.size
    clear g5 b5 own6q own7q nf6q nf7q e4 g4 h4 f4 l4 z4 hp4 hz4 hp3 own6n own7n nf6n nf7n hz3 e3 hgs3
    have hgs5 : Try.prog.globals.size ≤ w5.heap.size := by omega
    replace hGW := hp5.fb
    walk_nrm
    refine opsW_read calmM hGW hgs5 rfl rfl rfl (fun κ t d K hK => ?_)
    go_simp
    refine hK _ ?_
    clear hK
    walk_nrm
    refine opsW_nil ?_
    show wpW _ _ _ _ _ _ _ _ _ _ _
    refine wpW_region ?_
    simp only [List.size_toArray, List.length_cons, List.length_nil, Nat.reduceAdd, Nat.zero_add, List.range, List.range.loop]
    have hwr : IntKind.i64.wrap ((j : Int) + 1) = ((j + 1 : Nat) : Int) := by rw [IntKind.wrap_i64]; have := hO.small; omega
    refine opsW_read calmM hGW hgs5 rfl rfl rfl (fun κ t d K hK => ?_)
    go_simp
    refine hK _ ?_
    clear hK
    walk_nrm
    refine opsW_read calmM hGW hgs5 rfl rfl rfl (fun κ t d K hK => ?_)
    go_simp
    refine hK _ ?_
    clear hK
    walk_nrm
    refine opsW_nil ?_
    refine ⟨hjN, _, c6', c7', rfl, rfl, rfl, rfl, rfl, rfl, rfl, rfl, rfl, rfl, rfl, ?_, ?_, ?_, nf6m, nf7m, hp5⟩
    · simp
    · have e : (List.range (j + 1)).map (fun i => Value.chan (some (σ5.ch (σ0.first + i)))) = (List.range j).map (fun i => Value.chan (some (σ.ch (σ0.first + i)))) ++ [.chan (some ch)] := by
        rw [List.range_succ, List.map_append, e5]
        congr 1
        · refine List.map_congr_left fun i hi => ?_
          have : i < j := List.mem_range.1 hi
          rw [hch, if_neg (by omega)]
        · simp [hch]
      rw [e]
      exact own6m
    · have e : (lists.take (j + 1)).map (fun x => Value.int .i64 x.length) = (lists.take j).map (fun x => Value.int .i64 x.length) ++ [.int .i64 n] := by
        rw [List.take_add_one, hit, List.map_append]
        simp [hitems.len]
      rw [e]
      exact own7m
  · have hlt : decide ((j : Int) < (N : Int)) = false := by simp; omega
    obtain rfl : j = N := by omega
    refine opsW_read calmM hGW hgs rfl rfl rfl (fun κ t d K hK => ?_)
    go_simp
    refine hK _ ?_
    clear hK
    walk_nrm
    refine opsW_nil ?_
    show wpW _ _ _ _ _ _ _ _ _ _ _
    refine wpW_seq (wpW_cond (t := false) (by first | rfl | (simp [Act.eval]; omega)) ?_)
    simp only [Bool.false_eq_true, ↓reduceIte]
    refine wpW_exit ?_
    exact hx _ rfl ⟨_, v6, v7, rfl, rfl, rfl, rfl, rfl, rfl, rfl, rfl, rfl, rfl, rfl, rfl, own6, own7, nf6, nf7, hp⟩
/-- ████ THE FIRST LOOP. ████ -/
theorem strLoop1 (hO : OwnAt σ0 w0 ao N lists) (hSW : ∀ b, σ0.SW b → b < w0.heap.size) (hgs : Try.prog.globals.size ≤ w0.heap.size) (hFw : σ0.F σ0.Wg) (hroom : N ≤ σ0.room) (hI : Inv1 σ0 w0 l bo bp ao N cap lists 0 a σ pw)
    (hn : ∀ a σ pw, Inv1 σ0 w0 l bo bp ao N cap lists N a σ pw → Q .normal a σ pw) : wpW Try.prog wtG zI zS Post fn blockT1 Q a σ pw := by
  have hb : blockT1 = .block 0 (.loop loopT1) := rfl
  rw [hb]
  refine wpW_block (wpW_loop (fun a σ pw => ∃ j, j ≤ N ∧ Inv1 σ0 w0 l bo bp ao N cap lists j a σ pw) (fun _ σ _ => N - σ.n) ⟨0, by omega, hI⟩ fun a σ pw hI => ?_)
  obtain ⟨j, hj, hI⟩ := hI
  have hnj : σ.n = j := by
    obtain ⟨_, _, _, _, _, _, _, _, _, _, _, _, _, _, _, _, _, _, _, hp⟩ := hI
    exact hp.n
  refine wpW_mono (strRound hO hSW hgs hFw hroom hj hI (Q := inBlockM 0 Q) fun a' hjN hIN => ?_) fun e a' σ' pw' q => ?_
  · simp only [inBlockM, if_true]
    exact hn _ _ _ hIN
  · cases e with
    | normal =>
      obtain ⟨hjN, hI'⟩ := q
      refine ⟨⟨j + 1, by omega, hI'⟩, ?_⟩
      obtain ⟨_, _, _, _, _, _, _, _, _, _, _, _, _, _, _, _, _, _, _, hp⟩ := hI'
      have := hp.n
      show N - σ'.n < N - σ.n
      omega
    | exit id => exact q
    | ret => exact q
    | goto l => exact q
    | panic ch => exact q
    | outgrown => exact q
end
end Go.Proofs.Ytmllcfkgkkbkpaa.Pr
