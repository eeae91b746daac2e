/-
  Stream's CALLER: what it may do in its rounds; plain lemmas of the second loop.
-/
import Derived.Test.YtmllcfkgkkbkpaaHvStrL
import Derived.Test.YtmllcfkgkkbkpaaPk2
import Derived.Test.YtmllcfkgkkbkpaaHvShowI
import Derived.Test.YtmllcfkgkkbkpaaPk6
import Derived.Test.YtmllcfkgkkbkpaaPk0
import Derived.Deep.RegionHeld3
import Derived.Deep.QuietTactic
namespace Go.Proofs.Ytmllcfkgkkbkpaa
open Go Go.Conc Go.RowKit Go.Conc.Lib Go.ConcR.Gen
open Go.ConcN (upd upd_ne upd_same WgLive)
open Go.ConcR (KK wgBlock WgAt stA smA rd wr mk DC0)
/-- From w0, where the blocks B0 were the caller's, to w, where B are. -/
structure Grew (B0 : Nat → Prop) (w0 : World) (B : Nat → Prop) (w : World) : Prop where
  size : w0.heap.size ≤ w.heap.size
  low : ∀ x, x < w0.heap.size → ¬ B0 x → w.heap[x]? = w0.heap[x]?
  own : ∀ x, B x → x < w.heap.size ∧ (B0 x ∨ w0.heap.size ≤ x)
  os : w.os = w0.os
  output : w.output = w0.output
theorem Grew.refl {B : Nat → Prop} {w : World} (h : ∀ x, B x → x < w.heap.size) : Grew B w B w := ⟨Nat.le_refl _, fun _ _ _ => rfl, fun x hx => ⟨h x hx, .inl hx⟩, rfl, rfl⟩
theorem Grew.trans {B0 B1 B2 : Nat → Prop} {w0 w1 w2 : World} (h : Grew B0 w0 B1 w1) (k : Grew B1 w1 B2 w2) : Grew B0 w0 B2 w2 := by
  refine ⟨Nat.le_trans h.size k.size, fun x hx hb => ?_, fun x hx => ?_, k.os.trans h.os, k.output.trans h.output⟩
  · rw [k.low x (by have := h.size; omega) (fun h1 => ?_), h.low x hx hb]
    rcases (h.own x h1).2 with h2 | h2
    · exact hb h2
    · omega
  · obtain ⟨h1, h2⟩ := k.own x hx
    refine ⟨h1, ?_⟩
    rcases h2 with h2 | h2
    · exact (h.own x h2).2
    · exact .inr (by have := h.size; omega)
theorem Grew.step {B0 B : Nat → Prop} {w0 w w' : World} (h : Grew B0 w0 B w) (hs : w.heap.size ≤ w'.heap.size) (hl : ∀ x, x < w0.heap.size → w'.heap[x]? = w.heap[x]?) (ho : w'.os = w.os) (hu : w'.output = w.output) : Grew B0 w0 B w' :=
  ⟨Nat.le_trans h.size hs, fun x hx hb => (hl x hx).trans (h.low x hx hb), fun x hx => ⟨by have := (h.own x hx).1; omega, (h.own x hx).2⟩, ho.trans h.os, hu.trans h.output⟩
/-- Stream's caller: its loop's record r stands at l; I between rounds, J when it has left. -/
structure Caller (Post : Value → World → Prop) (l : Nat) (r : Loop) (All : List (Nat × Value)) (I J : (Nat → Prop) → List (Nat × Value) → World → Prop) : Prop where
  stab : ∀ B d w w', I B d w → (∀ x, B x → w'.heap[x]? = w.heap[x]?) → w.heap.size ≤ w'.heap.size → I B d w'
  stabJ : ∀ B d w w', J B d w → (∀ x, B x → w'.heap[x]? = w.heap[x]?) → w.heap.size ≤ w'.heap.size → J B d w'
  record : ∀ B d w, I B d w → B l ∧ w.heap[l]? = some (.loop r)
  params : r.params.size = 2
  round : ∀ B d (i : Nat) v rest σ pw base cs, All = d ++ (i, v) :: rest → I B d pw → (∀ x, B x → x < pw.heap.size ∧ ¬ σ.F x) → (∀ x, σ.F x → Try.prog.globals.size ≤ x ∧ x < pw.heap.size) → σ.tag = .opn false →
    (∀ B' pw', I B' (d ++ [(i, v)]) pw' → Grew B pw B' pw' → MV Try.prog wtG zI zS Post σ (G (base.finish (.bool true)) cs) pw') →
    (∀ B' pw', J B' (d ++ [(i, v)]) pw' → Grew B pw B' pw' → MV Try.prog wtG zI zS Post σ (G (base.finish (.bool false)) cs) pw') →
    MV Try.prog wtG zI zS Post σ (G (Frame.round l r.fn ((r.params.zip #[Value.int .i64 i, v]).foldl (fun tmps (t, a) => tmps.setIfInBounds t a) r.tmps) r.assign r.body .normal) (base :: cs)) pw
/-- What is left of each source. -/
def remsOf (ρ : Nat → List Value) (first N : Nat) : List (List Value) := (List.range N).map fun i => ρ (first + i)
theorem remsOf_len {ρ : Nat → List Value} {first N : Nat} : (remsOf ρ first N).length = N := by simp [remsOf]
theorem remsOf_get {ρ : Nat → List Value} {first N i : Nat} (h : i < N) : (remsOf ρ first N)[i]? = some (ρ (first + i)) := by
  simp [remsOf, List.getElem?_range h]
theorem remsOf_set {ρ : Nat → List Value} {first N i : Nat} {vs : List Value} : remsOf (upd ρ (first + i) vs) first N = (remsOf ρ first N).set i vs := by
  apply List.ext_getElem?
  intro j
  by_cases hj : j < N
  · rw [remsOf_get hj]
    by_cases e : i = j
    · subst e
      rw [upd_same, List.getElem?_set_self (by rw [remsOf_len]; exact hj)]
    · rw [upd_ne _ _ (by omega), List.getElem?_set_ne e, remsOf_get hj]
  · rw [List.getElem?_eq_none (by rw [remsOf_len]; omega), List.getElem?_eq_none (by rw [List.length_set, remsOf_len]; omega)]
theorem remsOf_eq {ρ : Nat → List Value} {first N : Nat} {lists : List (List Value)} (hl : lists.length = N) (h : ∀ i items, i < N → lists[i]? = some items → ρ (first + i) = items) : remsOf ρ first N = lists := by
  apply List.ext_getElem?
  intro j
  by_cases hj : j < N
  · rw [remsOf_get hj, List.getElem?_eq_getElem (by omega), h j _ hj (List.getElem?_eq_getElem (by omega))]
  · rw [List.getElem?_eq_none (by rw [remsOf_len]; omega), List.getElem?_eq_none (by omega)]
/-- A world behind a lone contract that changes nothing old. -/
theorem below_re {pw pw' : World} {B : Nat} {t t' : Nat → Question → Nat} {d d' : Nat} (h : Below B (pw.re t d) (pw'.re t' d')) : pw.heap.size ≤ pw'.heap.size ∧ (∀ x, x < B → pw'.heap[x]? = pw.heap[x]?) ∧ pw'.os = pw.os ∧ pw'.output = pw.output := ⟨h.size, h.block, h.os, h.output⟩
theorem iv_set (l : List Int) (i : Nat) (x : Int) : iv (l.set i x) = (iv l).set i (.int .i64 x) := by simp [iv, List.map_set]
theorem OwnI.stored {w : World} {base g cap : Nat} {l : List Int} {n : Nat} (hn : l.length = n) (h : OwnI w base (.slice (some ⟨g, 0, none⟩) n cap) l) (i : Nat) (x : Int) : OwnI (w.setCell ⟨g, i, none⟩ (.int .i64 x)) base (.slice (some ⟨g, 0, none⟩) n cap) (l.set i x) ∧ (∀ y, y ≠ g → (w.setCell ⟨g, i, none⟩ (.int .i64 x)).heap[y]? = w.heap[y]?) ∧ w.frozen? ⟨g, i, none⟩ = false := by
  subst hn
  have := World.ownsRow.stored h i (.int .i64 x)
  refine ⟨?_, fun y hy => heap_setCell_other w ⟨g, i, none⟩ y _ hy, World.ownsRow.frozenAt h i⟩
  unfold OwnI
  rw [List.length_set, iv_set]
  exact this.1
theorem owns_block {w : World} {base e size n : Nat} {v : Value} {xs : List Value} (h : w.ownsRow base e size v n xs) (hn : 0 < n) : ∃ g cap, v = .slice (some ⟨g, 0, none⟩) n cap ∧ base ≤ g ∧ g < w.heap.size := by
  rcases h.2 with ⟨_, h0⟩ | ⟨g, cap, cur, rfl, hb, hg, _⟩
  · omega
  · exact ⟨g, cap, rfl, hb, (Array.getElem?_eq_some_iff.1 hg).1⟩
end Go.Proofs.Ytmllcfkgkkbkpaa
/-
  The document's Turns.
-/
namespace Go.Proofs.Ytmllcfkgkkbkpaa
open Go.RowKit
/-- where a grown row may lie -/
def Way (w : World) (v v' : Value) : Prop := ∀ g, v'.ownBlock = some g → v.ownBlock = some g ∨ w.heap.size ≤ g

section
variable {P : Program} (w : World)
theorem wpList_append_way {ops : Array Oper} {rest : List Oper} {o : Oper} {a : Act} {Q : Exit → Act → World → Prop} (hgd : o.guard = none) (s x : Operand) (t tx : TypeId)
    (ho : o.op = .call { callee := .builtin .append, args := #[s, x], argTypes := #[t, tx] })
    (base : Nat) (e : TypeId) (z : Value) (size bytes : Nat) (ht : P.underlying t = some (.slice e)) (hi : (P.info? e).map (fun i => (i.zero, i.size, i.bytes)) = some (some z, size, bytes))
    (hzs : z.cells.size = size)
    (v : Value) (n : Nat) (xs : List Value) (hv : a.eval s = v) (hown : w.ownsRow base e size v n xs)
    (y : Value) (m : Nat) (news : List Value) (hx : a.eval x = y) (hs : Src P size tx y m news w)
    (h63 : n + m ≤ maxLen) (hbytes : (n + m + (n + m) / 4 + 512) * bytes ≤ 281474976710656) (hbase : base ≤ w.heap.size)
    (h : ∀ v' w', w'.ownsRow base e size v' (n + m) (xs ++ news) → w.grownBy w' v.ownBlock → Way w v v' → wpList P ops Q rest (a.put o.dst v') w') : wpList P ops Q (o :: rest) a w := by
  refine wpList_plain hgd fun K hK => ?_
  obtain ⟨i, hi, hz, hz1, hz2⟩ := info_parts hi
  obtain ⟨v', w', hr, h2, h3, h4⟩ := run_append_where (P := P) w base t tx o.type e i z size bytes ht hi hz hz1 hz2 hzs v n xs hown y m news hs h63 (fun old hold => Nat.le_trans (Nat.mul_le_mul_right _ (nextslicecap_le _ _ hold)) hbytes) hbase
  unfold Oper.wp execOp
  simp only [ho, resolve, invoke, builtin, Sem.run_bind, Sem.run_pure, Result.andThen_ok, List.map_toArray, List.map_cons, List.map_nil, hv, hx, hr]
  refine hK _ _ (h v' w' h2 h3 fun g hg => ?_)
  rcases h4 with ⟨g', cap, rfl, rfl⟩ | ⟨cap, rfl, _⟩ | ⟨rfl, _, _⟩
  · exact .inl hg
  · right
    have e : some w.heap.size = some g := hg
    injection e with e
    omega
  · exact .inl hg
end

/-- append of ints, and where the row then lies -/
theorem wpList_appendIw {w : World} {ops : Array Oper} {rest : List Oper} {o : Oper} {a : Act} {Q : Exit → Act → World → Prop} (hgd : o.guard = Option.none) (s x : Operand)
    (ho : o.op = .call { callee := .builtin .append, args := #[s, x], argTypes := #[23, 23] })
    (base : Nat) (v : Value) (l : List Int) (hv : a.eval s = v) (hown : OwnI w base v l)
    (p : Option Addr) (m c : Nat) (l2 : List Int) (hm : l2.length = m) (hx : a.eval x = .slice p m c) (hin : InI w p l2)
    (hr : l.length + m ≤ 20000000000000) (hbase : base ≤ w.heap.size)
    (h : ∀ v' w', OwnI w' base v' (l ++ l2) → w.grownBy w' v.ownBlock → Way w v v' → wpList Try.prog ops Q rest (a.put o.dst v') w') : wpList Try.prog ops Q (o :: rest) a w := by
  subst hm
  refine wpList_append_way w hgd s x 23 23 ho base 3 (.int .i64 0) 1 8 Try.underlying23 infoI rfl v l.length (iv l) hv hown _ l2.length (iv l2) hx (by have := srcV (c := c) Try.underlying23 hin (iv_one l2); rw [iv_length] at this; exact this) (by unfold maxLen; omega) (by omega) hbase ?_
  intro v' w' ho' hg hn
  exact h v' w' (by unfold OwnI; rw [List.length_append, iv_append]; exact ho') hg hn
/-- Whose turn it is each time. -/
def turnsT (L : List (List Int)) (picks : List Int) : List Int := (things L picks 0).map fun x => (x.1 : Int)
theorem turnsT_len (L : List (List Int)) (picks : List Int) : (turnsT L picks).length = total L := by
  unfold turnsT
  rw [List.length_map, things_len]
def lenOf (v : Value) : Nat := match v with
  | .slice _ n _ => n
  | _ => 0
theorem lenI {w : World} {base : Nat} {v : Value} {l : List Int} (h : OwnI w base v l) : lenOf v = l.length := by
  obtain ⟨p, c, rfl, _⟩ := h.shape rfl
  rfl
theorem keepIT {w w' : World} {base : Nat} {u : Value} {l : List Int} (h : OwnI w base u l) (hk : ∀ g, g < w.heap.size → u.ownBlock = some g → w'.heap[g]? = w.heap[g]?) : OwnI w' base u l := owns_keep h hk
/-- Where the loop stands. -/
def TuR (L rems : List (List Int)) (picks : List Int) (k : Nat) (out : List Int) : Prop :=
  rems.length = L.length ∧ out.length = k ∧ turnsT L picks = out ++ (things rems picks k).map fun x => (x.1 : Int)
theorem TuR.len {L rems : List (List Int)} {picks : List Int} {k : Nat} {out : List Int} (h : TuR L rems picks k out) : total L = k + total rems := by
  have := congrArg List.length h.2.2
  rw [turnsT_len, List.length_append, h.2.1, List.length_map, things_len] at this
  exact this
/-- A round of it: over, or a turn more. -/
theorem TuR.round {L rems : List (List Int)} {picks : List Int} {k n m : Nat} {out op : List Int} (h : TuR L rems picks k out) (hn : L.length = n) (ho : op = openTo (lens rems) n) (hm : op.length = m) :
    (m = 0 ∧ turnsT L picks = out) ∨ (¬ m = 0 ∧ ∃ (j i : Nat) (xs : List Int) (x : Int), j < m ∧ (∀ hj : j < op.length, op[j] = (i : Int)) ∧ i < n ∧ rems[i]? = some (x :: xs) ∧ (¬ 0 < picks.getD k 0 → j = 0) ∧ (0 < picks.getD k 0 → Int.tmod (picks.getD k 0) m = j) ∧ TuR L (rems.set i xs) picks (k + 1) (out ++ [(i : Int)]) ∧ xs.length + 1 ≤ total L) := by
  have hl : (lens rems).length = n := by rw [lens_length, h.1, hn]
  rcases turn_left (rems := rems) (pick := picks.getD k 0) with ⟨h1, _⟩ | ⟨i, x, xs, h1, hi, hx⟩
  · left
    have h0 : m = 0 := by
      apply Classical.byContradiction
      intro hne
      obtain ⟨j, hj, h2, _⟩ := turnT_some ho hl hm hne (picks.getD k 0)
      have h3 := h2 (by omega)
      have hmem : ∀ z ∈ op, ∃ q : Nat, z = (q : Int) := fun z hz => by
        rw [ho] at hz
        obtain ⟨q, hq, _⟩ := mem_openTo.1 hz
        exact ⟨q, hq⟩
      obtain ⟨q, hq⟩ := hmem op[j] (List.getElem_mem _)
      rw [h1] at h3
      omega
    refine ⟨h0, ?_⟩
    rw [h.2.2, things_end h1]
    simp
  · right
    have hne : ¬ m = 0 := fun h0 => by
      have := turnT_none (left := lens rems) (by rw [hl, ← ho, hm, h0]) (picks.getD k 0)
      rw [h1] at this
      omega
    obtain ⟨j, hj, h2, h3, h4⟩ := turnT_some ho hl hm hne (picks.getD k 0)
    refine ⟨hne, j, i, xs, x, hj, fun hj2 => (h2 hj2).symm.trans h1, by have := h.1; omega, hx, fun hp => ?_, fun hp => h4 (by omega), ⟨by rw [List.length_set]; exact h.1, by simp [h.2.1], ?_⟩, ?_⟩
    · by_cases hp2 : picks.getD k 0 < 0
      · exact h3 hp2
      · have := h4 hp2
        rw [show picks.getD k 0 = 0 by omega] at this
        simp at this
        omega
    · rw [h.2.2, things_step h1 hx, List.map_cons, List.append_assoc]
      rfl
    · have := total_get hx
      have := h.len
      simp only [List.length_cons] at *
      omega
theorem measI {w : World} {base k T t : Nat} {v : Value} {l : List Int} {p : Option Addr} {c : Nat} (h : OwnI w base v l) (hl : l.length = k + 1) (ht : T = k + 1 + t) : T + 1 - lenOf v < T + 1 - lenOf (.slice p k c) := by
  rw [lenI h, hl]
  show _ < T + 1 - k
  omega
set_option maxRecDepth 100000 in
set_option maxHeartbeats 8000000 in
theorem turns_any {p pp : Option Addr} {L : List (List Int)} {picks : List Int} {n c np cp : Nat} (w : World) (hin : InI w p (lens L)) (hn : L.length = n) (hs : n ≤ 1000000) (htot : total L ≤ 1000000000000) (hp : InI w pp picks) (hnp : picks.length = np) :
    Calls Try.prog 18 #[.slice p n c, .slice pp np cp] w fun e w' => ∃ v, e = .returned v ∧ OwnI w' w.heap.size v (turnsT L picks) ∧ Below w.heap.size w w' := by
  have HN := Lib.hid hn
  have HP := Lib.hid hnp
  clear hn hnp
  have hmade := OwnI.made w
  have hin1 := hin.alloc (.cells #[] 3)
  go_enter Try.func18, Try.ntmps18
  go_wp2_with (at_builtin; refine wpList_appendI rfl _ _ rfl w.heap.size _ _ rfl hmade _ _ _ (lens L) (by rw [lens_length, HN.out]) rfl hin1 (by simp; omega) (by simp) ?_; intro v2 w2 hown2 hgrow2 _)
  obtain ⟨p5, c5, rfl, _, _, _, hp5⟩ := hown2.shape (n := n) (by rw [List.nil_append, lens_length, HN.out])
  rw [List.nil_append] at hown2
  have hb2 : Below w.heap.size w w2 := ownI_grown ((Below.refl _ w).alloc (Nat.le_refl _) (.cells #[] 3)) (by simp) hmade hgrow2
  have hmade2 := OwnI.made w2
  have hs2 := hb2.size
  have hrel0 : TuR L L picks 0 [] ∧ OwnI (w2.alloc (.cells #[] 3)) w.heap.size (.slice p5 n c5) (lens L) ∧ OwnI (w2.alloc (.cells #[] 3)) w.heap.size (.slice (some ⟨w2.heap.size, 0, none⟩) 0 0) [] ∧ (∀ g, (Value.slice (some ⟨w2.heap.size, 0, none⟩) 0 0).ownBlock = some g → (Value.slice p5 n c5).ownBlock ≠ some g) ∧ Below w.heap.size w (w2.alloc (.cells #[] 3)) := by
    refine ⟨⟨rfl, rfl, rfl⟩, hown2.alloc _, hmade2.mono hs2, fun g hg e => ?_, hb2.alloc hs2 _⟩
    have h1 := (World.ownsRow.lt hown2 g e).2
    have h2 : w2.heap.size = g := by simpa [Value.ownBlock] using hg
    omega
  have HR0 := Lib.hid hrel0
  clear hrel0 hmade2 hown2 hgrow2 hmade hin1 hp5
  go_wp2
  go_loopw [6] (fun u wr => ∃ (rems : List (List Int)) (k : Nat) (out : List Int), TuR L rems picks k out ∧ OwnI wr w.heap.size (.slice p5 n c5) (lens rems) ∧ OwnI wr w.heap.size u out ∧ (∀ g, u.ownBlock = some g → (Value.slice p5 n c5).ownBlock ≠ some g) ∧ Below w.heap.size w wr) (fun u _ => total L + 1 - lenOf u)
  case atStart => exact ⟨L, 0, [], HR0.out⟩
  case round =>
    obtain ⟨rems, k, out, hT, hown5, hown6, hsep, hb⟩ := hrel
    have hbs := hb.size
    obtain ⟨wo, hwo⟩ : ∃ x, x = wr := ⟨_, rfl⟩
    subst hwo
    have hlen : (lens rems).length = n := by rw [lens_length, hT.1, HN.out]
    have HL := Lib.hid hlen
    have htk := hT.len
    obtain ⟨_, _, e5, _, _, hin5, _⟩ := hown5.shape hlen
    simp only [Value.slice.injEq, true_and] at e5
    obtain ⟨rfl, rfl⟩ := e5
    obtain ⟨p6, c6, rfl, _, _, _, hp6⟩ := hown6.shape hT.2.1
    have HT := Lib.hid hT
    have HO5 := Lib.hid hown5
    have HO6 := Lib.hid hown6
    have HSEP := Lib.hid hsep
    have HB := Lib.hid hb
    have hmade7 := OwnI.made wo
    clear hT hown5 hown6 hsep hlen hb hp6
    go_wp2
    go_loopw [7, 8] (fun u i wi => ∃ (j : Nat) (op : List Int), j ≤ n ∧ i = .int .i64 j ∧ OwnI wi wo.heap.size u op ∧ op.length ≤ j ∧ op = openTo (lens rems) j ∧ Below wo.heap.size wo wi) (fun _ i _ => n + 1 - (intOf i).toNat)
    case atStart => exact ⟨0, [], by omega, rfl, hmade7, by simp, rfl, (Below.refl _ wo).alloc (Nat.le_refl _) _⟩
    case round =>
      obtain ⟨j, op, hj, rfl, hopen, hol, ho, hbi⟩ := hrel
      have hbsi := hbi.size
      by_cases hlt : j < n
      · have hl : j < (lens rems).length := by rw [HL.out]; exact hlt
        have HS := Lib.hid (openTo_step hl ho)
        have HO := Lib.hid ho
        clear ho
        obtain ⟨b, o, rfl, hc⟩ := (hin5.below hbi).at hl
        generalize (lens rems)[j] = x at hc HS
        by_cases hp0 : 0 < x
        · have hin1 := InI.one wr (j : Int)
          have hown1 := hopen.alloc (.cells #[.int .i64 (j : Int)] 3)
          go_wp2_with (at_builtin; refine wpList_appendI rfl _ _ rfl wo.heap.size _ _ rfl hown1 _ _ _ _ rfl rfl hin1 (by simp; omega) (by simp; omega) ?_; intro v3 w3 hown3 hgrow3 _)
          go_roundw
          case rel => exact ⟨j + 1, op ++ [(j : Int)], by omega, by go_num, hown3, by simp; omega, (HS.out.1 hp0).symm, ownI_grown (hbi.alloc hbsi _) (by simp; omega) hown1 hgrow3⟩
          case measure => simp [intOf]; omega
        · go_wp2
          go_roundw
          case rel => exact ⟨j + 1, op, by omega, by go_num, hopen, by omega, (HS.out.2 hp0).symm, hbi⟩
          case measure => simp [intOf]; omega
      · obtain rfl : j = n := by omega
        obtain ⟨m, hm⟩ : ∃ m, op.length = m := ⟨_, rfl⟩
        obtain ⟨p7, c7, rfl, _, _, hin7, hp7⟩ := hopen.shape hm
        have hcase := HT.out.round HN.out ho hm
        have HO7 := Lib.hid hopen
        clear hopen ho hmade7
        have hbb := HB.out.trans (hbi.mono hbs)
        have hob : out.length + 1 ≤ 20000000000000 := by have := HT.out.2.1; have := HT.out.len; omega
        have hbw : w.heap.size ≤ wr.heap.size := hbb.size
        rcases hcase with ⟨rfl, hend⟩ | ⟨hne, j0, i, xs, x, hj0, hget, hi, hx, hz1, hz2, hTR, hxl⟩
        · have HE := Lib.hid hend
          clear hend
          go_wp2
          go_ret
          exact ⟨_, rfl, by rw [HE.out]; exact HO6.out.below hbi, hbb⟩
        have hm0 : (0 : Int) < (m : Int) := by omega
        have hme : ((m : Int) == 0) = false := by simp; omega
        obtain ⟨b7, o7, rfl, hc7⟩ := hin7.at (k := j0) (by omega)
        rw [hget (by omega)] at hc7
        obtain ⟨g5, cap5, e5, hg5, hg5l⟩ := owns_block (HO5.out.below hbi) (by rw [HL.out]; omega)
        rw [HL.out] at e5
        simp only [Value.slice.injEq, true_and] at e5
        obtain ⟨rfl, rfl⟩ := e5
        have hlx : (lens rems)[i]? = some ((xs.length : Int) + 1) := by
          unfold lens
          rw [List.getElem?_map, hx]
          simp
        have hc5 : wr.cell? ⟨g5, i, none⟩ = some (.int .i64 ((xs.length : Int) + 1)) := by
          have h1 := HO5.out.below hbi
          unfold OwnI at h1
          rw [HL.out] at h1
          rw [World.ownsRow.cellAt h1 i (by omega)]
          unfold iv
          rw [List.getElem?_map, hlx]
          rfl
        obtain ⟨hst, hoth, hfz⟩ := OwnI.stored (n := j) HL.out (HO5.out.below hbi) i (xs.length : Int)
        rw [← lens_set] at hst
        have hw1 : IntKind.i64.wrap ((xs.length : Int) + 1 - 1) = (xs.length : Int) := by rw [IntKind.wrap_i64]; omega
        have hw2 : IntKind.i64.wrap (xs.length : Int) = (xs.length : Int) := by rw [IntKind.wrap_i64]; omega
        have hown6s : OwnI (wr.setCell ⟨g5, i, none⟩ (.int .i64 (xs.length : Int))) w.heap.size (.slice p6 k c6) out := ownsRow_setCell_other (HO6.out.below hbi) (fun e => HSEP.out g5 e rfl) _
        have hown6a := hown6s.alloc (.cells #[.int .i64 (i : Int)] 3)
        have hin9 := InI.one (wr.setCell ⟨g5, i, none⟩ (.int .i64 (xs.length : Int))) (i : Int)
        have hss : (wr.setCell ⟨g5, i, none⟩ (.int .i64 (xs.length : Int))).heap.size = wr.heap.size := by simp
        rw [hss] at hin9
        clear hss
        have hba : Below w.heap.size w ((wr.setCell ⟨g5, i, none⟩ (.int .i64 (xs.length : Int))).alloc (.cells #[.int .i64 (i : Int)] 3)) := (hbb.setCell (by show w.heap.size ≤ g5; omega) _).alloc (by simp; omega) _
        have HST := Lib.hid (hst.alloc (.cells #[.int .i64 (i : Int)] 3))
        have HBA := Lib.hid hba
        have HTR := Lib.hid hTR
        have hlo := hTR.2.1
        rw [List.length_append, List.length_singleton] at hlo
        have FSEP := Lib.hid (show ∀ v6, Way ((wr.setCell ⟨g5, i, none⟩ (.int .i64 (xs.length : Int))).alloc (.cells #[.int .i64 (i : Int)] 3)) (.slice p6 k c6) v6 → ∀ g, v6.ownBlock = some g → (Value.slice (some ⟨g5, 0, none⟩) j c5).ownBlock ≠ some g from fun v6 hway g hg e => by
          have e2 : g5 = g := by simpa [Value.ownBlock] using e
          subst e2
          rcases hway g5 hg with h | h
          · exact HSEP.out g5 h rfl
          · simp only [World.size_alloc] at h
            have : (wr.setCell ⟨g5, i, none⟩ (.int .i64 (xs.length : Int))).heap.size = wr.heap.size := by simp
            omega)
        clear hst hoth hba hTR hown6s hlx hx
        by_cases hk : k < np
        · obtain ⟨bp, op2, rfl, hcp⟩ := (hp.below hbb).at (k := k) (by rw [HP.out]; exact hk)
          have hgd : picks.getD k 0 = picks[k]'(by rw [HP.out]; exact hk) := by rw [List.getD_eq_getElem?_getD, List.getElem?_eq_getElem (by rw [HP.out]; exact hk)]; rfl
          rw [hgd] at hz1 hz2
          generalize picks[k]'(by rw [HP.out]; exact hk) = pk at hcp hz1 hz2
          have hk1 : decide ((k : Int) < (np : Int)) = true := by simp; exact hk
          clear hgd
          by_cases hpk : 0 < pk
          · have hq := hz2 hpk
            have hk2 : decide (pk > 0) = true := by simp; exact hpk
            clear hz1 hz2
            go_wp2_with (at_builtin; refine wpList_appendIw rfl _ _ rfl w.heap.size _ _ rfl hown6a _ _ _ _ rfl rfl hin9 hob (by simp; omega) ?_; intro v6 w6 hown6b hgrow6 hway6)
            go_roundw
            case rel => exact ⟨rems.set i xs, k + 1, out ++ [(i : Int)], HTR.out, keepIT HST.out fun g hg e => (hgrow6.block g hg fun e2 => HSEP.out g e2.symm e), hown6b, FSEP.out v6 hway6, ownI_grown HBA.out (by have := HBA.out.size; omega) hown6a hgrow6⟩
            case measure => exact measI hown6b HTR.out.2.1 HTR.out.len
          · have hq := hz1 hpk
            subst hq
            rw [Nat.add_zero] at hc7
            have hk2 : decide (pk > 0) = false := by simp; omega
            clear hz1 hz2
            go_wp2_with (at_builtin; refine wpList_appendIw rfl _ _ rfl w.heap.size _ _ rfl hown6a _ _ _ _ rfl rfl hin9 hob (by simp; omega) ?_; intro v6 w6 hown6b hgrow6 hway6)
            go_roundw
            case rel => exact ⟨rems.set i xs, k + 1, out ++ [(i : Int)], HTR.out, keepIT HST.out fun g hg e => (hgrow6.block g hg fun e2 => HSEP.out g e2.symm e), hown6b, FSEP.out v6 hway6, ownI_grown HBA.out (by have := HBA.out.size; omega) hown6a hgrow6⟩
            case measure => exact measI hown6b HTR.out.2.1 HTR.out.len
        · have hgd : picks.getD k 0 = 0 := by rw [List.getD_eq_getElem?_getD, List.getElem?_eq_none (by rw [HP.out]; omega)]; rfl
          rw [hgd] at hz1 hz2
          have hq := hz1 (by omega)
          subst hq
          rw [Nat.add_zero] at hc7
          have hk1 : decide ((k : Int) < (np : Int)) = false := by simp; omega
          clear hz1 hz2 hgd
          go_wp2_with (at_builtin; refine wpList_appendIw rfl _ _ rfl w.heap.size _ _ rfl hown6a _ _ _ _ rfl rfl hin9 hob (by simp; omega) ?_; intro v6 w6 hown6b hgrow6 hway6)
          go_roundw
          case rel => exact ⟨rems.set i xs, k + 1, out ++ [(i : Int)], HTR.out, keepIT HST.out fun g hg e => (hgrow6.block g hg fun e2 => HSEP.out g e2.symm e), hown6b, FSEP.out v6 hway6, ownI_grown HBA.out (by have := HBA.out.size; omega) hown6a hgrow6⟩
          case measure => exact measI hown6b HTR.out.2.1 HTR.out.len
end Go.Proofs.Ytmllcfkgkkbkpaa
/-
  The document's Merge.
-/
namespace Go.Proofs.Ytmllcfkgkkbkpaa
open Go.RowKit
theorem step_append_fit {P : Program} {w : World} {ops : Array Oper} {o : Oper} {a : Act} {K : Act → World → Prop} {Q : Exit → Act → World → Prop} {E : Prop} (hgd : o.guard = none) (s x : Operand) (t tx : TypeId)
    (ho : o.op = .call { callee := .builtin .append, args := #[s, x], argTypes := #[t, tx] })
    (base : Nat) (e : TypeId) (z : Value) (size bytes : Nat) (ht : P.underlying t = some (.slice e)) (hi : (P.info? e).map (fun i => (i.zero, i.size, i.bytes)) = some (some z, size, bytes))
    (hzs : z.cells.size = size)
    (v : Value) (n : Nat) (xs : List Value) (hv : a.eval s = v) (hown : w.ownsRow base e size v n xs)
    (y : Value) (m : Nat) (news : List Value) (hx : a.eval x = y) (hs : Src P size tx y m news w)
    (h63 : n + m ≤ maxLen) (hbytes : (n + m + (n + m) / 4 + 512) * bytes ≤ 281474976710656) (hbase : base ≤ w.heap.size)
    (h : ∀ v' w', w'.ownsRow base e size v' (n + m) (xs ++ news) → w.grownBy w' v.ownBlock → K (a.put o.dst v') w') :
    if Region.wanted o (yielded ops a.tmps) = true then Oper.wp P o a w K Q else E := by
  have hw : Region.wanted o (yielded ops a.tmps) = true := by simp [Region.wanted, hgd]
  rw [if_pos hw]
  obtain ⟨i, hi, hz, hz1, hz2⟩ := info_parts hi
  obtain ⟨v', w', hr, h2, h3, h4⟩ := run_append_fit (P := P) w base t tx o.type e i z size bytes ht hi hz hz1 hz2 hzs v n xs hown y m news hs h63 (fun old hold => Nat.le_trans (Nat.mul_le_mul_right _ (nextslicecap_le _ _ hold)) hbytes) hbase
  unfold Oper.wp execOp
  simp only [ho, resolve, invoke, builtin, Sem.run_bind, Sem.run_pure, Result.andThen_ok, List.map_toArray, List.map_cons, List.map_nil, hv, hx, hr]
  exact h v' w' h2 h3
theorem step_appendI {w : World} {ops : Array Oper} {o : Oper} {a : Act} {K : Act → World → Prop} {Q : Exit → Act → World → Prop} {E : Prop} (hgd : o.guard = none) (s x : Operand)
    (ho : o.op = .call { callee := .builtin .append, args := #[s, x], argTypes := #[23, 23] })
    (base : Nat) (v : Value) (l : List Int) (hv : a.eval s = v) (hown : OwnI w base v l)
    (p : Option Addr) (m c : Nat) (l2 : List Int) (hm : l2.length = m) (hx : a.eval x = .slice p m c) (hin : InI w p l2)
    (hr : l.length + m ≤ 20000000000000) (hbase : base ≤ w.heap.size)
    (h : ∀ v' w', OwnI w' base v' (l ++ l2) → w.grownBy w' v.ownBlock → K (a.put o.dst v') w') :
    if Region.wanted o (yielded ops a.tmps) = true then Oper.wp Try.prog o a w K Q else E := by
  subst hm
  refine step_append_fit hgd s x _ _ ho base 3 (.int .i64 0) 1 8 Try.underlying23 infoI rfl v l.length (iv l) hv hown _ l2.length (iv l2) hx (by have := srcV (c := c) Try.underlying23 hin (iv_one l2); rw [iv_length] at this; exact this) (by unfold maxLen; omega) (by omega) hbase ?_
  intro v' w' ho' hg
  exact h v' w' (by unfold OwnI; rw [List.length_append, iv_append]; exact ho') hg
theorem merge_lenI (L : List (List Int)) (picks : List Int) : (mergeT L picks).length = total L := by
  unfold mergeT
  rw [List.length_map, things_len]
/-- Where the second loop stands. -/
structure MgR (L rems : List (List Int)) (picks : List Int) (t : Nat) (out ats : List Int) : Prop where
  rl : rems.length = L.length
  ol : out.length = t
  tu : ∃ d : List Int, d.length = t ∧ turnsT L picks = d ++ (things rems picks t).map fun x => (x.1 : Int)
  mg : mergeT L picks = out ++ (things rems picks t).map (·.2)
  al : ats.length = L.length
  at_ : ∀ (i : Nat) (l : List Int), L[i]? = some l → ∃ a : Nat, ats[i]? = some (a : Int) ∧ a ≤ l.length ∧ rems[i]? = some (l.drop a)
theorem MgR.start (L : List (List Int)) (picks : List Int) : MgR L L picks 0 [] (List.replicate L.length 0) :=
  ⟨rfl, rfl, ⟨[], rfl, rfl⟩, rfl, by simp, fun i l hi => ⟨0, by rw [List.getElem?_replicate, if_pos (List.getElem?_eq_some_iff.1 hi).1]; rfl, Nat.zero_le _, by simpa using hi⟩⟩
theorem MgR.len {L rems : List (List Int)} {picks out ats : List Int} {t : Nat} (h : MgR L rems picks t out ats) : total L = t + total rems := by
  have := congrArg List.length h.mg
  rw [merge_lenI, List.length_append, h.ol, List.length_map, things_len] at this
  exact this
theorem MgR.round {L rems : List (List Int)} {picks out ats : List Int} {t : Nat} (h : MgR L rems picks t out ats) (ht : t < total L) :
    ∃ (i a : Nat) (x : Int) (l : List Int), (turnsT L picks)[t]? = some (i : Int) ∧ L[i]? = some l ∧ l[a]? = some x ∧ ats[i]? = some (a : Int) ∧ ∃ rems', MgR L rems' picks (t + 1) (out ++ [x]) (ats.set i ((a : Int) + 1)) := by
  have hlen := h.len
  rcases turn_left (rems := rems) (pick := picks.getD t 0) with ⟨h1, _⟩ | ⟨i, x, xs, h1, hi, hx⟩
  · have h2 := things_end h1
    have h3 := things_len rems picks t
    rw [h2] at h3
    simp only [List.length_nil] at h3
    omega
  · have hs := things_step h1 hx
    have hiL : i < L.length := by have := h.rl; omega
    obtain ⟨a, h3, h4, h5⟩ := h.at_ i _ (List.getElem?_eq_getElem hiL)
    rw [hx] at h5
    have hd := (Option.some.inj h5).symm
    have hax : (L[i])[a]? = some x := by
      have : (L[i].drop a)[0]? = some x := by rw [hd]; rfl
      rwa [List.getElem?_drop, Nat.add_zero] at this
    obtain ⟨d, hd1, hd2⟩ := h.tu
    refine ⟨i, a, x, L[i], ?_, List.getElem?_eq_getElem hiL, hax, h3, rems.set i xs, by rw [List.length_set]; exact h.rl, by simp [h.ol], ⟨d ++ [(i : Int)], by simp [hd1], ?_⟩, ?_, by rw [List.length_set]; exact h.al, fun j l hj => ?_⟩
    · rw [hd2, hs, List.getElem?_append_right (by omega), hd1, Nat.sub_self]
      rfl
    · rw [hd2, hs, List.map_cons, List.append_assoc]
      rfl
    · rw [h.mg, hs, List.map_cons, List.append_assoc]
      rfl
    · by_cases e : i = j
      · subst e
        rw [List.getElem?_eq_getElem hiL] at hj
        cases hj
        refine ⟨a + 1, by rw [List.getElem?_set_self (by rw [h.al]; exact hiL)]; rfl, ?_, ?_⟩
        · have := (List.getElem?_eq_some_iff.1 hax).1
          omega
        · rw [List.getElem?_set_self hi, ← List.drop_drop]
          have : (L[i].drop a).drop 1 = xs := by rw [hd]; rfl
          rw [this]
      · obtain ⟨b, h6, h7, h8⟩ := h.at_ j l hj
        exact ⟨b, by rw [List.getElem?_set_ne e]; exact h6, h7, by rw [List.getElem?_set_ne e]; exact h8⟩
theorem lens_take (L : List (List Int)) (k : Nat) (h : k < L.length) : lens (L.take (k + 1)) = lens (L.take k) ++ [(L[k].length : Int)] := by
  unfold lens
  rw [List.take_succ_eq_append_getElem h, List.map_append]
  rfl
set_option maxRecDepth 100000 in
set_option maxHeartbeats 8000000 in
theorem refMerge_any {p pp : Option Addr} {L : List (List Int)} {picks : List Int} {n c np cp : Nat} (w : World) (hin : InLs w p L) (hn : L.length = n) (hs : n ≤ 1000000) (htot : total L ≤ 1000000000) (hp : InI w pp picks) (hnp : picks.length = np) :
    Calls Try.prog 15 #[.slice p n c, .slice pp np cp] w fun e w' => ∃ v, e = .returned v ∧ OwnI w' w.heap.size v (mergeT L picks) ∧ Below w.heap.size w w' := by
  have HN := Lib.hid hn
  clear hn
  have hm5 := OwnI.made w
  have hm6 := OwnI.made (w.alloc (.cells #[] 3))
  rw [World.size_alloc] at hm6
  go_enter Try.func15, Try.ntmps15
  go_wp2
  go_loopw [5, 6, 7] (fun u v i wr => ∃ k : Nat, k ≤ n ∧ i = .int .i64 k ∧ OwnI wr w.heap.size u (lens (L.take k)) ∧ OwnI wr w.heap.size v (List.replicate k 0) ∧ (∀ g, u.ownBlock = some g → v.ownBlock ≠ some g) ∧ Below w.heap.size w wr) (fun _ _ i _ => n - (intOf i).toNat)
  case atStart =>
    refine ⟨0, Nat.zero_le _, rfl, hm5.alloc _, hm6.mono (by omega), fun g hg e => ?_, ((Below.refl _ w).alloc (Nat.le_refl _) _).alloc (by simp) _⟩
    have h1 : w.heap.size = g := by simpa [Value.ownBlock] using hg
    have h2 : w.heap.size + 1 = g := by simpa [Value.ownBlock] using e
    omega
  case round =>
    obtain ⟨k, hk, rfl, hown5, hown6, hsep, hb⟩ := hrel
    have hbs := hb.size
    by_cases hlt : k < n
    · have hkL : k < L.length := by rw [HN.out]; exact hlt
      obtain ⟨b, o, q, cq, rfl, hc, _⟩ := (hin.below hb).at hkL
      have HLT := Lib.hid (lens_take L k hkL)
      have HREP := Lib.hid (show List.replicate k (0 : Int) ++ [0] = List.replicate (k + 1) 0 by rw [List.replicate_succ'])
      generalize L[k].length = m at hc HLT
      have hl5 : (lens (L.take k)).length ≤ k := by rw [lens_length, List.length_take]; omega
      have hin1 := InI.one wr (m : Int)
      have hown5a := hown5.alloc (.cells #[.int .i64 (m : Int)] 3)
      have hown6a := hown6.alloc (.cells #[.int .i64 (m : Int)] 3)
      have HS := Lib.hid hsep
      have HB := Lib.hid hb
      clear hsep hown5 hown6 hb
      go_wp2_with (first
        | (at_builtin; refine wpList_appendIw rfl _ _ rfl w.heap.size _ (lens (L.take k)) rfl hown5a _ _ _ _ rfl rfl hin1 (by simp; omega) (by simp; omega) ?_; intro v5 w2 hown5b hgrow5 hway5
           have HO5 := Lib.hid hown5b
           have HO6 := Lib.hid (keepIT hown6a fun g hg e => hgrow5.block g hg fun e2 => HS.out g e2.symm e)
           have HB2 := Lib.hid (ownI_grown (HB.out.alloc hbs _) (by simp; omega) hown5a hgrow5)
           have HS2 := Lib.hid (show ∀ g, v5.ownBlock = some g → _ ≠ some g from fun g hg e => (hway5 g hg).elim (fun h => HS.out g h e) fun h => by have := (World.ownsRow.lt hown6a g e).2; omega)
           have hin2 := InI.one w2 0
           clear hown5b hgrow5 hway5)
        | (at_builtin; refine wpList_appendIw rfl _ _ rfl w.heap.size _ (List.replicate k 0) rfl (HO6.out.alloc _) _ _ _ _ rfl rfl hin2 (by simp; omega) (by have := HB2.out.size; simp; omega) ?_; intro v6 w3 hown6b hgrow6 hway6))
      have hb2s := HB2.out.size
      go_roundw
      case rel => exact ⟨k + 1, by omega, by go_num, by rw [HLT.out]; exact keepIT (HO5.out.alloc _) fun g hg e => hgrow6.block g hg fun e2 => HS2.out g e e2.symm, by rw [← HREP.out]; exact hown6b, fun g hg e => (hway6 g e).elim (fun h => HS2.out g hg h) fun h => by have := (World.ownsRow.lt HO5.out g hg).2; simp only [World.size_alloc] at h; omega, ownI_grown (HB2.out.alloc hb2s _) (by simp; omega) (HO6.out.alloc _) hgrow6⟩
      case measure => simp [intOf]; omega
    · obtain rfl : k = n := by omega
      have hL : L.take k = L := List.take_of_length_le (by rw [HN.out]; exact Nat.le_refl _)
      rw [hL] at hown5
      obtain ⟨p5, c5, rfl, _, _, hin5, _⟩ := hown5.shape (n := k) (by rw [lens_length, HN.out])
      obtain ⟨p6, c6, rfl, _, _, _, hp6⟩ := hown6.shape (n := k) (by simp)
      obtain ⟨wo, hwo⟩ : ∃ x, x = wr := ⟨_, rfl⟩
      subst hwo
      clear hown5 hsep hL
      go_wp2_with fail
      refine (turns_any wo hin5 HN.out (by omega) (by omega) (hp.below hb) hnp).mono ?_
      rintro e w8 ⟨v8, rfl, hown8, hb8⟩
      obtain ⟨p8, c8, rfl, _, _, hin8, hp8⟩ := hown8.shape (n := total L) (by rw [turnsT_len])
      have hbb := hb.trans (hb8.mono hbs)
      have hown6' := hown6.below hb8
      have hb8s := hb8.size
      obtain ⟨T, hT⟩ : ∃ T, T = total L := ⟨_, rfl⟩
      rw [← hT]
      have hm9 := OwnI.made w8
      have HTT := Lib.hid hT
      have hTb : T ≤ 1000000000 := by omega
      clear hown8 hown6 hb8 hb hT htot
      have hr0 : MgR L L picks 0 [] (List.replicate k 0) := by
        have := MgR.start L picks
        rw [HN.out] at this
        exact this
      have HR0 := Lib.hid hr0
      clear hr0
      go_wp2_with fail
      go_loopw [9, 10] (fun u i wr => ∃ (rems : List (List Int)) (t : Nat) (out ats : List Int), t ≤ T ∧ i = .int .i64 t ∧ MgR L rems picks t out ats ∧ OwnI wr w8.heap.size u out ∧ OwnI wr w.heap.size (.slice p6 k c6) ats ∧ (∀ x, x < w8.heap.size → (∀ a, p6 = some a → a.block ≠ x) → wr.heap[x]? = w8.heap[x]?) ∧ Below w.heap.size w wr ∧ w8.heap.size ≤ wr.heap.size) (fun _ i _ => T - (intOf i).toNat)
      case atStart => exact ⟨L, 0, [], List.replicate k 0, Nat.zero_le _, rfl, HR0.out, hm9, hown6'.alloc _, fun x hx _ => by show (w8.heap.push _)[x]? = _; rw [Array.getElem?_push_lt hx, Array.getElem?_eq_getElem hx], hbb.alloc (by have := hbb.size; omega) _, by simp⟩
      case round =>
        obtain ⟨rems, t, out, ats, ht, rfl, hR, hown9, hown6, hfr, hb, hs8⟩ := hrel
        have hol := hR.ol
        have hal := hR.al
        by_cases htT : t < T
        · obtain ⟨i, a, x, l, h1, h2, h3, h4, rems', hR'⟩ := hR.round (by rw [← HTT.out]; exact htT)
          have hlow : ∀ y, y < wo.heap.size → (∀ b, p6 = some b → b.block ≠ y) → wr.heap[y]? = w8.heap[y]? := fun y hy hne => hfr y (by omega) hne
          have hin8' : InI wr p8 (turnsT L picks) := InV.keep hin8 fun b e _ => hfr _ (hp8 b e).2.1 fun b2 e2 h => by
            have := (hp8 b e).1
            have := (hp6 b2 e2).2.1
            omega
          have hlt8 : t < (turnsT L picks).length := by rw [turnsT_len, ← HTT.out]; exact htT
          obtain ⟨b8, o8, rfl, hc8⟩ := hin8'.at hlt8
          rw [List.getElem?_eq_getElem hlt8] at h1
          rw [Option.some.inj h1] at hc8
          have hiL : i < L.length := (List.getElem?_eq_some_iff.1 h2).1
          obtain ⟨b0, o0, q, cq, rfl, hc0w, hitem⟩ := hin.at hiL
          rw [List.getElem?_eq_getElem hiL] at h2
          rw [Option.some.inj h2] at hc0w hitem
          have hal2 : a < l.length := (List.getElem?_eq_some_iff.1 h3).1
          obtain ⟨bq, oq, rfl, hcqw⟩ := hitem.at hal2
          rw [List.getElem?_eq_getElem hal2] at h3
          rw [Option.some.inj h3] at hcqw
          have hb0 : b0 < w.heap.size := World.block_lt_of_cell? w _ hc0w
          have hbq : bq < w.heap.size := World.block_lt_of_cell? w _ hcqw
          have hc0 := (hb.cell hb0).trans hc0w
          have hcq := (hb.cell hbq).trans hcqw
          obtain ⟨g6, cap6, e6, hg6, hg6l⟩ := owns_block hown6 (by rw [hal]; omega)
          rw [hal, HN.out] at e6
          simp only [Value.slice.injEq, true_and] at e6
          obtain ⟨rfl, rfl⟩ := e6
          have hc6 : wr.cell? ⟨g6, i, none⟩ = some (.int .i64 a) := by
            have h5 := hown6
            unfold OwnI at h5
            rw [hal, HN.out] at h5
            rw [World.ownsRow.cellAt h5 i (by have := HN.out; omega)]
            unfold iv
            rw [List.getElem?_map, h4]
            rfl
          have hg68 : g6 < wo.heap.size := (hp6 _ rfl).2.1
          have hik : i < k := by have := HN.out; omega
          have hlb : l.length ≤ 1000000000 := by
            have := total_get (List.getElem?_eq_getElem hiL)
            rw [Option.some.inj h2] at this
            have := HTT.out
            omega
          obtain ⟨S, hSS⟩ : ∃ S : World → Prop, S = fun W => W.cell? ⟨b0, o0 + i, none⟩ = some (.slice (some ⟨bq, oq, none⟩) l.length cq) ∧ W.cell? ⟨g6, i, none⟩ = some (.int .i64 a) ∧ W.cell? ⟨bq, oq + a, none⟩ = some (.int .i64 x) := ⟨_, rfl⟩
          have HSS := Lib.hid (fun W => show S W ↔ W.cell? ⟨b0, o0 + i, none⟩ = some (.slice (some ⟨bq, oq, none⟩) l.length cq) ∧ W.cell? ⟨g6, i, none⟩ = some (.int .i64 a) ∧ W.cell? ⟨bq, oq + a, none⟩ = some (.int .i64 x) by rw [hSS])
          have step : ∀ W, Below wr.heap.size wr W → S W := fun W hW => by
            rw [hSS]
            exact ⟨(hW.cell (World.block_lt_of_cell? wr _ hc0)).trans hc0, (hW.cell (World.block_lt_of_cell? wr _ hc6)).trans hc6, (hW.cell (World.block_lt_of_cell? wr _ hcq)).trans hcq⟩
          have HK0 := Lib.hid (step _ (Below.refl _ wr).drew)
          have HK1 := Lib.hid (step _ ((Below.refl _ wr).drew.alloc (Nat.le_refl _) (.cells #[.int .i64 x] 3)))
          have HK3 := Lib.hid (show S (wr.alloc (.cells #[.int .i64 x] 3)).drew from step _ ((Below.refl _ wr).alloc (Nat.le_refl _) (.cells #[.int .i64 x] 3)).drew)
          have hown9d : OwnI wr.drew w8.heap.size _ out := hown9
          have hown9a := hown9d.alloc (.cells #[.int .i64 x] 3)
          have hin1 := InI.one wr.drew x
          have hw8 : w.heap.size ≤ w8.heap.size := hbb.size
          have hpos : w8.heap.size ≤ (wr.drew.alloc (.cells #[.int .i64 x] 3)).heap.size := by
            simp only [World.size_alloc]
            show w8.heap.size ≤ wr.heap.size + 1
            omega
          have HFK := Lib.hid (show ∀ w9, (wr.drew.alloc (.cells #[.int .i64 x] 3)).grownBy w9 _ → (∀ y, y < w8.heap.size → w9.heap[y]? = wr.heap[y]?) ∧ S w9 from fun w9 hgr => by
            have hlw : ∀ y, y < w8.heap.size → w9.heap[y]? = wr.heap[y]? := fun y hy => by
              rw [hgr.block y (by omega) (fun e => by have := (World.ownsRow.lt hown9a y e.symm).1; omega)]
              show (wr.heap.push _)[y]? = _
              rw [Array.getElem?_push_lt (by omega), Array.getElem?_eq_getElem (by omega)]
            refine ⟨hlw, ?_⟩
            rw [hSS]
            exact ⟨(World.cell?_of_block (hlw b0 (by omega))).trans hc0, (World.cell?_of_block (hlw g6 (by omega))).trans hc6, (World.cell?_of_block (hlw bq (by omega))).trans hcq⟩)
          have HO6 := Lib.hid hown6
          have HFR := Lib.hid hfr
          have HB := Lib.hid hb
          have HR' := Lib.hid hR'
          have HAL := Lib.hid hal
          have hob : out.length + 1 ≤ 20000000000000 := by omega
          clear hSS step hc0w hcqw hc0 hcq hc6 hown9 hown9d hown6 hfr hb hR hR' hal hol h4 hin8' hlow hitem
          go_wp2_with fail
          go_region_held3 (fun W => W.cell? ⟨b0, o0 + i, none⟩ = some (.slice (some ⟨bq, oq, none⟩) l.length cq) ∧ W.cell? ⟨g6, i, none⟩ = some (.int .i64 a) ∧ W.cell? ⟨bq, oq + a, none⟩ = some (.int .i64 x))
            (first | (with_reducible exact (HSS.out _).1 HK0.out) | (with_reducible exact (HSS.out _).1 HK1.out) | (with_reducible exact (HSS.out _).1 HK3.out) | (with_reducible exact (HSS.out _).1 HK2.out))
            (first
              | (refine step_appendI rfl _ _ rfl w8.heap.size _ out rfl hown9a _ _ _ [x] rfl rfl hin1 hob hpos ?_; intro v9 w9 hown9b hgrow9; have HK2 := Lib.hid (HFK.out w9 hgrow9).2; have H9 := Lib.hid (And.intro hown9b hgrow9); clear hown9b hgrow9))
          all_goals
            have hlw := (HFK.out w9 H9.out.2).1
            have hown6s : OwnI w9 w.heap.size (.slice (some ⟨g6, 0, none⟩) k c6) ats := keepIT HO6.out fun g hg e => by
              have e2 : g6 = g := by simpa [Value.ownBlock] using e
              rw [← e2]
              exact hlw g6 (by omega)
            have hc6 : w9.cell? ⟨g6, i, none⟩ = some (.int .i64 a) := ((HSS.out _).1 HK2.out).2.1
            obtain ⟨hst, hoth, hfz⟩ := OwnI.stored (n := k) (HAL.out.trans HN.out) hown6s i ((a : Int) + 1)
            have hs9 : w8.heap.size ≤ w9.heap.size := Nat.le_trans hpos H9.out.2.size
            have hb9 : Below w.heap.size w w9 := ownI_grown ((HB.out.drew).alloc (by show w.heap.size ≤ wr.heap.size; omega) _) (by show w.heap.size ≤ _; omega) (hown9a.mono hw8) H9.out.2
            have hw1 : IntKind.i64.wrap ((a : Int) + 1) = (a : Int) + 1 := by rw [IntKind.wrap_i64]; omega
            have HST := Lib.hid hst
            have HOTH := Lib.hid hoth
            have HHL := Lib.hid hlw
            clear hown6s hst hoth hlw
            go_wp2_with fail
            go_roundw
            case rel => exact ⟨rems', t + 1, out ++ [x], ats.set i ((a : Int) + 1), by omega, by go_num, HR'.out, keepIT H9.out.1 fun g _ e => HOTH.out g (by have := (World.ownsRow.lt H9.out.1 g e).1; omega), HST.out, fun y hy hne => (HOTH.out y (fun e => hne _ rfl e.symm)).trans ((HHL.out y hy).trans (HFR.out y hy hne)), hb9.setCell (by show w.heap.size ≤ g6; omega) _, by simp; exact hs9⟩
            case measure => simp [intOf]; omega
        · obtain rfl : t = T := by omega
          have hl0 := hR.len
          have h0 : (things rems picks t).length = 0 := by
            rw [things_len]
            have := HTT.out
            omega
          have hmg := hR.mg
          rw [List.eq_nil_of_length_eq_zero h0] at hmg
          simp only [List.map_nil, List.append_nil] at hmg
          have HMG := Lib.hid hmg
          clear hl0 hmg hol hal hR h0
          go_wp2_with fail
          go_ret
          exact ⟨_, rfl, by rw [HMG.out]; exact hown9.mono (by have := hbb.size; omega), hb⟩
end Go.Proofs.Ytmllcfkgkkbkpaa
/-
  WHAT MuxPairs BUILDS AND GETS: plain.
-/
namespace Go.Proofs.Ytmllcfkgkkbkpaa
def sb (x : Int) : ByteArray := ⟨(showI x).toArray⟩
abbrev pf (i : Nat) (x : Int) : ByteArray × Int := (sb x, (i : Int))
def prL (L : List (List Int)) : List (List (ByteArray × Int)) := L.mapIdx fun i l => l.map (pf i)
theorem prL_len (L : List (List Int)) : (prL L).length = L.length := by simp [prL]
theorem prL_get (L : List (List Int)) (i : Nat) : (prL L)[i]? = L[i]?.map fun l => l.map (pf i) := by simp [prL, List.getElem?_mapIdx]
theorem prL_at (L : List (List Int)) (k : Nat) (h : k < L.length) : (prL L).take (k + 1) = (prL L).take k ++ [L[k].map (pf k)] := by
  rw [List.take_add_one, prL_get, List.getElem?_eq_getElem h]
  rfl
theorem lens_prL (L : List (List Int)) : lens (prL L) = lens L := by
  apply List.ext_getElem?
  intro i
  unfold lens
  rw [List.getElem?_map, List.getElem?_map, prL_get]
  cases L[i]? <;> simp
theorem total_lens {α β : Type} {A : List (List α)} {B : List (List β)} (h : lens A = lens B) : total A = total B := by
  have : A.map List.length = B.map List.length := by
    have h2 := congrArg (List.map Int.toNat) h
    simpa [lens, List.map_map, Function.comp_def] using h2
  unfold total
  rw [this]
theorem total_prL (L : List (List Int)) : total (prL L) = total L := total_lens (lens_prL L)
theorem prL_set (L : List (List Int)) (i : Nat) (l : List Int) : prL (L.set i l) = (prL L).set i (l.map (pf i)) := by
  apply List.ext_getElem?
  intro j
  rw [prL_get]
  by_cases e : i = j
  · subst e
    by_cases h : i < L.length
    · rw [List.getElem?_set_self h, List.getElem?_set_self (by rw [prL_len]; exact h)]; rfl
    · rw [List.getElem?_eq_none (by simp; omega), List.getElem?_eq_none (by rw [List.length_set, prL_len]; omega)]; rfl
  · rw [List.getElem?_set_ne e, List.getElem?_set_ne e, prL_get]
theorem things_prL (picks : List Int) : ∀ (n : Nat) (L : List (List Int)) (k : Nat), total L = n → things (prL L) picks k = (things L picks k).map fun x => (x.1, pf x.1 x.2)
  | n, L, k, hn => by
    rcases turn_left (rems := L) (pick := picks.getD k 0) with ⟨h, _⟩ | ⟨i, v, vs, h, hi, hr⟩
    · rw [things_end h, things_end (by rw [lens_prL]; exact h)]
      rfl
    · have hr2 : (prL L)[i]? = some (pf i v :: vs.map (pf i)) := by rw [prL_get, hr]; rfl
      have ht := total_set hr
      rw [things_step h hr, things_step (by rw [lens_prL]; exact h) hr2, List.map_cons, ← prL_set]
      cases n with
      | zero => omega
      | succ n => rw [things_prL picks n (L.set i vs) (k + 1) (by omega)]
/-- What the last loop compares. -/
structure Cmp (G : List (ByteArray × Int)) (Wt Tn : List Int) (m : Nat) : Prop where
  g : G.length = m
  w : Wt.length = m
  t : Tn.length = m
  at' : ∀ k, (h : k < m) → ∃ y i, G[k]? = some (sb y, i) ∧ Wt[k]? = some y ∧ Tn[k]? = some i
theorem cmp_of (L : List (List Int)) (picks : List Int) : Cmp ((things (prL L) picks 0).map (·.2)) (mergeT L picks) (turnsT L picks) (total L) := by
  rw [things_prL picks _ L 0 rfl]
  refine ⟨?_, merge_lenI L picks, turnsT_len L picks, fun k h => ?_⟩
  · rw [List.length_map, List.length_map, things_len]
  · obtain ⟨x, hx⟩ : ∃ x, (things L picks 0)[k]? = some x := ⟨_, List.getElem?_eq_getElem (by rw [things_len]; exact h)⟩
    refine ⟨x.2, x.1, ?_, ?_, ?_⟩
    · rw [List.getElem?_map, List.getElem?_map, hx]; rfl
    · unfold mergeT; rw [List.getElem?_map, hx]; rfl
    · unfold turnsT; rw [List.getElem?_map, hx]; rfl
end Go.Proofs.Ytmllcfkgkkbkpaa
/-
  MuxPairs: its lone pieces.
-/
namespace Go.Proofs.Ytmllcfkgkkbkpaa
open Go Go.RowKit
noncomputable def bodyPr : Code := (Try.f4.body).getD .skip
noncomputable def piecePr : Code := match bodyPr with | .seq _ (.seq _ (.seq _ (.seq _ (.seq x _)))) => x | _ => .skip
noncomputable def sizesPr : Code := match bodyPr with | .seq _ (.seq _ (.seq _ (.seq _ (.seq _ (.seq _ (.seq _ (.seq x _))))))) => x | _ => .skip
noncomputable def tailPr : Code := match bodyPr with | .seq _ (.seq _ (.seq _ (.seq _ (.seq _ (.seq _ (.seq _ (.seq _ (.seq _ (.seq _ x))))))))) => x | _ => .skip
theorem take_pf (k : Nat) (l : List Int) (j : Nat) (h : j < l.length) : (l.take (j + 1)).map (pf k) = (l.take j).map (pf k) ++ [(sb l[j], (k : Int))] := by
  rw [List.take_succ_eq_append_getElem h, List.map_append]
  rfl
end Go.Proofs.Ytmllcfkgkkbkpaa
/-
  MuxPairs: a lone piece.
-/
namespace Go.Proofs.Ytmllcfkgkkbkpaa
open Go Go.RowKit
set_option maxRecDepth 100000 in
set_option maxHeartbeats 8000000 in
theorem pairs_piece {T : Array Value} {p : Option Addr} {L : List (List Int)} {n c g base : Nat} {x1 : Value} (w : World) (hT : T.size = 112) (t0 : T[0]? = some (.slice p n c)) (t1 : T[1]? = some x1) (t5 : T[5]? = some (.slice (some ⟨g, 0, none⟩) 0 0)) (hinW : ∀ wr, Below base w wr → InLs wr p L) (hn : L.length = n) (hs : n ≤ 100) (hl : ∀ l ∈ L, l.length ≤ 1000000) (hown : Pr.OwnPs w base (.slice (some ⟨g, 0, none⟩) 0 0) []) (hbase : base ≤ w.heap.size) :
    piecePr.wp Try.prog (fun e a' w' => e = .normal ∧ ∃ T' v5, a' = ⟨T', []⟩ ∧ T'.size = 112 ∧ T'[0]? = some (.slice p n c) ∧ T'[1]? = some x1 ∧ T'[5]? = some v5 ∧ Pr.OwnPs w' base v5 (prL L) ∧ Below base w w') ⟨T, []⟩ w := by
  refine cps112 hT fun v0 v1 v2 v3 v4 v5 v6 v7 v8 v9 v10 v11 v12 v13 v14 v15 v16 v17 v18 v19 v20 v21 v22 v23 v24 v25 v26 v27 v28 v29 v30 v31 v32 v33 v34 v35 v36 v37 v38 v39 v40 v41 v42 v43 v44 v45 v46 v47 v48 v49 v50 v51 v52 v53 v54 v55 v56 v57 v58 v59 v60 v61 v62 v63 v64 v65 v66 v67 v68 v69 v70 v71 v72 v73 v74 v75 v76 v77 v78 v79 v80 v81 v82 v83 v84 v85 v86 v87 v88 v89 v90 v91 v92 v93 v94 v95 v96 v97 v98 v99 v100 v101 v102 v103 v104 v105 v106 v107 v108 v109 v110 v111 eT => ?_
  subst eT
  simp only [List.getElem?_toArray, List.getElem?_cons_zero, List.getElem?_cons_succ, Option.some.injEq] at t0 t1 t5
  subst t0 t1 t5
  have HN := Lib.hid hn
  have HIN := Lib.hid hinW
  clear hn hinW
  simp only [piecePr, bodyPr, Try.f4, Option.getD_some]
  go_wp2
  go_loopw [5, 6] (fun v i wr => ∃ k : Nat, k ≤ n ∧ i = .int .i64 k ∧ Pr.OwnPs wr base v ((prL L).take k) ∧ Below base w wr ∧ base ≤ wr.heap.size) (fun _ i _ => n - (intOf i).toNat)
  case atStart => exact ⟨0, Nat.zero_le _, rfl, hown, Below.refl _ _, hbase⟩
  case round =>
    obtain ⟨k, hk, rfl, hown, hb, hbs⟩ := hrel
    by_cases hlt : k < n
    · have hkL : k < L.length := by rw [HN.out]; exact hlt
      have hlk := hl L[k] (List.getElem_mem hkL)
      have HTL := Lib.hid (prL_at L k hkL)
      have HINK := Lib.hid (fun wi (hbi : Below base w wi) => (HIN.out wi hbi).at hkL)
      have htl : ((prL L).take k).length ≤ k := by rw [List.length_take]; omega
      generalize L[k] = l at HTL HINK hlk
      have HOW := Lib.hid hown
      have HB := Lib.hid hb
      clear hown hb
      go_wp2
      obtain ⟨wo, hwo⟩ : ∃ x, x = wr := ⟨_, rfl⟩
      subst hwo
      have hmade := Pr.OwnP.made wo
      go_loopw [7, 8] (fun u j wi => ∃ c : Nat, c ≤ l.length ∧ j = .int .i64 c ∧ Pr.OwnP wi wo.heap.size u ((l.take c).map (pf k)) ∧ Below wo.heap.size wo wi) (fun _ j _ => l.length - (intOf j).toNat)
      case atStart => exact ⟨0, Nat.zero_le _, rfl, hmade, (Below.refl _ wo).alloc (Nat.le_refl _) _⟩
      case round =>
        obtain ⟨j, hj, rfl, hu, hbi⟩ := hrel
        have hbsi := hbi.size
        obtain ⟨b, o, q, c2, rfl, hcell, hitem⟩ := HINK.out wr (HB.out.trans (hbi.mono hbs))
        by_cases hjm : j < l.length
        · obtain ⟨b2, o2, rfl, hc2⟩ := hitem.at hjm
          have HSU := Lib.hid (take_pf k l j hjm)
          generalize l[j] = x at hc2 HSU
          have HU := Lib.hid hu
          have HBI := Lib.hid hbi
          have hul : ((l.take j).map (pf k)).length ≤ 1000000 := by simp; omega
          clear hu hbi hitem
          go_wp2_with fail
          refine (showI_any x wr).mono ?_
          rintro e w1 ⟨rfl, hb1⟩
          have hb1s := hb1.size
          have hu1 := (HU.out.below hb1).alloc (.cells #[.string (sb x), .int .i64 (k : Int)] Pr.tP)
          have hin1 := Pr.InP.one w1 (sb x) (k : Int)
          have HB1 := Lib.hid (HBI.out.trans (hb1.mono hbsi))
          have hcell1 := (hb1.cell (World.block_lt_of_cell? wr _ hcell)).trans hcell
          clear hb1
          go_wp2_with (at_builtin; refine Pr.wpList_appendP rfl _ _ rfl wo.heap.size _ _ rfl hu1 _ _ _ _ rfl rfl hin1 (by simp; omega) (by simp; omega) ?_; intro u2 w2 hu2 hgrow2 _)
          go_roundw
          case rel => exact ⟨j + 1, by omega, by go_num, by rw [HSU.out]; exact hu2, Pr.ownP_grown (HB1.out.alloc (by omega) _) (by simp; omega) hu1 hgrow2⟩
          case measure => simp [intOf]; omega
        · obtain rfl : j = l.length := by omega
          rw [List.take_length] at hu
          obtain ⟨q9, c9, rfl, _, _, _, _⟩ := hu.shape (n := l.length) (by simp)
          have HU := Lib.hid hu
          have hb3 := HB.out.trans (hbi.mono hbs)
          have hown3 := (HOW.out.below hbi).alloc (.cells #[.slice q9 l.length c9] 32)
          have HLL := Lib.hid (show (l.map (pf k)).length = l.length by simp)
          clear hu hbi hitem
          go_wp2_with (at_builtin; refine Pr.wpList_appendPs rfl _ _ rfl base _ ((prL L).take k) rfl hown3 _ _ (.slice q9 l.length c9) (l.map (pf k)) rfl (InV.oneV wr _ _) ((HU.out.mono hbs).alloc _) (by omega) (by simp; omega) ?_; intro v5 w5 hown5 hgrow5)
          go_roundw
          case rel => exact ⟨k + 1, by omega, by go_num, by rw [HTL.out]; exact hown5, Pr.ownPs_grown (hb3.alloc (by omega) _) (by simp; omega) hown3 hgrow5, by have := hgrow5.size; simp only [World.size_alloc] at this; omega⟩
          case measure => simp [intOf]; omega
    · obtain rfl : k = n := by omega
      have hL : (prL L).take k = prL L := List.take_of_length_le (by rw [prL_len, HN.out]; exact Nat.le_refl _)
      rw [hL] at hown
      go_wp2
      all_goals exact ⟨_, _, rfl, rfl, rfl, rfl, rfl, hown, hb⟩
end Go.Proofs.Ytmllcfkgkkbkpaa
/-
  MuxPairs: a lone piece.
-/
namespace Go.Proofs.Ytmllcfkgkkbkpaa
open Go Go.RowKit
set_option maxRecDepth 100000 in
set_option maxHeartbeats 8000000 in
theorem sizes_piece {T : Array Value} {p : Option Addr} {L : List (List Int)} {n c g base : Nat} {x1 x9 : Value} (w : World) (hT : T.size = 112) (t0 : T[0]? = some (.slice p n c)) (t1 : T[1]? = some x1) (t9 : T[9]? = some x9) (t10 : T[10]? = some (.slice (some ⟨g, 0, none⟩) 0 0)) (hinW : ∀ wr, Below base w wr → InLs wr p L) (hn : L.length = n) (hs : n ≤ 100) (hown : OwnI w base (.slice (some ⟨g, 0, none⟩) 0 0) []) (hbase : base ≤ w.heap.size) :
    sizesPr.wp Try.prog (fun e a' w' => e = .normal ∧ ∃ T' v, a' = ⟨T', []⟩ ∧ T'.size = 112 ∧ T'[0]? = some (.slice p n c) ∧ T'[1]? = some x1 ∧ T'[9]? = some x9 ∧ T'[10]? = some v ∧ OwnI w' base v (lens L) ∧ Below base w w') ⟨T, []⟩ w := by
  refine cps112 hT fun v0 v1 v2 v3 v4 v5 v6 v7 v8 v9 v10 v11 v12 v13 v14 v15 v16 v17 v18 v19 v20 v21 v22 v23 v24 v25 v26 v27 v28 v29 v30 v31 v32 v33 v34 v35 v36 v37 v38 v39 v40 v41 v42 v43 v44 v45 v46 v47 v48 v49 v50 v51 v52 v53 v54 v55 v56 v57 v58 v59 v60 v61 v62 v63 v64 v65 v66 v67 v68 v69 v70 v71 v72 v73 v74 v75 v76 v77 v78 v79 v80 v81 v82 v83 v84 v85 v86 v87 v88 v89 v90 v91 v92 v93 v94 v95 v96 v97 v98 v99 v100 v101 v102 v103 v104 v105 v106 v107 v108 v109 v110 v111 eT => ?_
  subst eT
  simp only [List.getElem?_toArray, List.getElem?_cons_zero, List.getElem?_cons_succ, Option.some.injEq] at t0 t1 t9 t10
  subst t0 t1 t9 t10
  have HN := Lib.hid hn
  have HIN := Lib.hid hinW
  clear hn hinW
  simp only [sizesPr, bodyPr, Try.f4, Option.getD_some]
  go_wp2
  go_loopw [10, 11] (fun v i wr => ∃ k : Nat, k ≤ n ∧ i = .int .i64 k ∧ OwnI wr base v (lens (L.take k)) ∧ Below base w wr ∧ base ≤ wr.heap.size) (fun _ i _ => n - (intOf i).toNat)
  case atStart => exact ⟨0, Nat.zero_le _, rfl, hown, Below.refl _ _, hbase⟩
  case round =>
    obtain ⟨k, hk, rfl, hown, hb, hbs⟩ := hrel
    by_cases hlt : k < n
    · have hkL : k < L.length := by rw [HN.out]; exact hlt
      obtain ⟨b, o, q, c2, rfl, hcell, _⟩ := (HIN.out wr hb).at hkL
      have HTL := Lib.hid (lens_take L k hkL)
      have htl : (lens (L.take k)).length ≤ k := by rw [lens_length, List.length_take]; omega
      generalize L[k].length = m at HTL hcell
      have hin1 := InI.one wr (m : Int)
      have hown1 := hown.alloc (.cells #[.int .i64 (m : Int)] 3)
      clear hown
      go_wp2_with (at_builtin; refine wpList_appendI rfl _ _ rfl base _ _ rfl hown1 _ _ _ _ rfl rfl hin1 (by simp; omega) (by simp; omega) ?_; intro u2 w2 hu2 hgrow2 _)
      go_roundw
      case rel => exact ⟨k + 1, by omega, by go_num, by rw [HTL.out]; exact hu2, ownI_grown (hb.alloc hbs _) (by simp; omega) hown1 hgrow2, by have := hgrow2.size; simp only [World.size_alloc] at this; omega⟩
      case measure => simp [intOf]; omega
    · obtain rfl : k = n := by omega
      have hL : L.take k = L := List.take_of_length_le (by rw [HN.out]; exact Nat.le_refl _)
      rw [hL] at hown
      go_wp2
      all_goals exact ⟨_, _, rfl, rfl, rfl, rfl, rfl, rfl, hown, hb⟩
end Go.Proofs.Ytmllcfkgkkbkpaa
/-
  MuxPairs: a lone piece.
-/
namespace Go.Proofs.Ytmllcfkgkkbkpaa
open Go Go.RowKit
set_option maxRecDepth 100000 in
set_option maxHeartbeats 8000000 in
theorem pairs_tail {T : Array Value} {q qt qw : Option Addr} {m cg ct cw : Nat} {G : List Pr.PV} {Wt Tn : List Int} (w : World) (hT : T.size = 112) (t9 : T[9]? = some (.slice q m cg)) (t12 : T[12]? = some (.slice qt m ct)) (t13 : T[13]? = some (.slice qw m cw)) (hG : Pr.InP w q G) (hW : InI w qw Wt) (hTn : InI w qt Tn) (hc : Cmp G Wt Tn m) (hm : m ≤ 1000000) :
    tailPr.wp Try.prog (fun e a' w' => ∃ r, e = exitOf r ∧ r = true ∧ a'.tmps.getD 4 undef = .bool true ∧ a'.defers = [] ∧ Below w.heap.size w w') ⟨T, []⟩ w := by
  refine cps112 hT fun v0 v1 v2 v3 v4 v5 v6 v7 v8 v9 v10 v11 v12 v13 v14 v15 v16 v17 v18 v19 v20 v21 v22 v23 v24 v25 v26 v27 v28 v29 v30 v31 v32 v33 v34 v35 v36 v37 v38 v39 v40 v41 v42 v43 v44 v45 v46 v47 v48 v49 v50 v51 v52 v53 v54 v55 v56 v57 v58 v59 v60 v61 v62 v63 v64 v65 v66 v67 v68 v69 v70 v71 v72 v73 v74 v75 v76 v77 v78 v79 v80 v81 v82 v83 v84 v85 v86 v87 v88 v89 v90 v91 v92 v93 v94 v95 v96 v97 v98 v99 v100 v101 v102 v103 v104 v105 v106 v107 v108 v109 v110 v111 eT => ?_
  subst eT
  simp only [List.getElem?_toArray, List.getElem?_cons_zero, List.getElem?_cons_succ, Option.some.injEq] at t9 t12 t13
  subst t9 t12 t13
  have HC := Lib.hid hc
  have hmm : ((m : Int) != (m : Int)) = false := by simp
  clear hc
  simp only [tailPr, bodyPr, Try.f4, Option.getD_some]
  go_wp2
  go_loopw [14] (fun i wr => ∃ k : Nat, k ≤ m ∧ i = .int .i64 k ∧ Below w.heap.size w wr) (fun i _ => m - (intOf i).toNat)
  case atStart => exact ⟨0, Nat.zero_le _, rfl, Below.refl _ _⟩
  case round =>
    obtain ⟨k, hk, rfl, hb⟩ := hrel
    by_cases hlt : k < m
    · obtain ⟨y, i, e1, e2, e3⟩ := HC.out.at' k hlt
      obtain ⟨b, o, rfl, hc1, hc2⟩ := (hG.below hb).at (k := k) (by rw [HC.out.g]; exact hlt)
      obtain ⟨b2, o2, rfl, hc3⟩ := (hW.below hb).at (k := k) (by rw [HC.out.w]; exact hlt)
      obtain ⟨b3, o3, rfl, hc4⟩ := (hTn.below hb).at (k := k) (by rw [HC.out.t]; exact hlt)
      rw [List.getElem?_eq_getElem (by rw [HC.out.g]; exact hlt), Option.some.injEq] at e1
      rw [List.getElem?_eq_getElem (by rw [HC.out.w]; exact hlt), Option.some.injEq] at e2
      rw [List.getElem?_eq_getElem (by rw [HC.out.t]; exact hlt), Option.some.injEq] at e3
      rw [e1] at hc1 hc2
      rw [e2] at hc3
      rw [e3] at hc4
      clear e1 e2 e3
      have hshow := showI_any y wr.drew
      obtain ⟨s, hs⟩ : ∃ s, s = sb y := ⟨_, rfl⟩
      have hshow2 : Calls Try.prog 16 #[.int .i64 y] wr.drew fun e w' => e = .returned (.string s) ∧ Below wr.heap.size wr.drew w' := by rw [hs]; exact hshow
      replace hc1 : wr.cell? ⟨b, o + k * 2, none⟩ = some (.string (sb y)) := hc1
      replace hc2 : wr.cell? ⟨b, o + k * 2 + 1, none⟩ = some (.int .i64 i) := hc2
      rw [← hs] at hc1
      clear hshow hs
      have hii : (i != i) = false := by simp
      obtain ⟨S, hSS⟩ : ∃ S : World → Prop, S = fun W => W.cell? ⟨b, o + k * 2, none⟩ = some (.string s) ∧ W.cell? ⟨b, o + k * 2 + 1, none⟩ = some (.int .i64 i) ∧ W.cell? ⟨b2, o2 + k, none⟩ = some (.int .i64 y) ∧ W.cell? ⟨b3, o3 + k, none⟩ = some (.int .i64 i) := ⟨_, rfl⟩
      have HSS := Lib.hid (fun W => show S W ↔ W.cell? ⟨b, o + k * 2, none⟩ = some (.string s) ∧ W.cell? ⟨b, o + k * 2 + 1, none⟩ = some (.int .i64 i) ∧ W.cell? ⟨b2, o2 + k, none⟩ = some (.int .i64 y) ∧ W.cell? ⟨b3, o3 + k, none⟩ = some (.int .i64 i) by rw [hSS])
      have HK0 := Lib.hid (show S wr.drew by rw [hSS]; exact ⟨hc1, hc2, hc3, hc4⟩)
      have HCL := Lib.hid (show Calls Try.prog 16 #[.int .i64 y] wr.drew fun e w' => e = .returned (.string s) ∧ S w' ∧ Below w.heap.size w w' from
        hshow2.mono fun e w' ⟨h1, h2⟩ => by
          have hb4 : Below wr.heap.size wr w' := ((Below.refl _ wr).drew).trans h2
          have ck : ∀ {a : Addr} {v : Value}, wr.cell? a = some v → w'.cell? a = some v := fun {a v} h => (hb4.cell (World.block_lt_of_cell? wr _ h)).trans h
          refine ⟨h1, ?_, hb.trans (hb4.mono hb.size)⟩
          rw [hSS]
          exact ⟨ck hc1, ck hc2, ck hc3, ck hc4⟩)
      clear hSS hc1 hc2 hc3 hc4 hb hshow2
      go_wp2_with fail
      go_region_held3 (fun W => W.cell? ⟨b, o + k * 2, none⟩ = some (.string s) ∧ W.cell? ⟨b, o + k * 2 + 1, none⟩ = some (.int .i64 i) ∧ W.cell? ⟨b2, o2 + k, none⟩ = some (.int .i64 y) ∧ W.cell? ⟨b3, o3 + k, none⟩ = some (.int .i64 i))
        (first | (with_reducible exact (HSS.out _).1 HK0.out) | (with_reducible exact (HSS.out _).1 HK1.out))
        (first
          | (go_at_call 16; with_reducible refine HCL.out.mono ?_; rintro e w4 ⟨rfl, hk1, hb4⟩; have HK1 := Lib.hid hk1; have HB4 := Lib.hid hb4; clear hk1 hb4))
      all_goals
        go_wp2_with fail
        go_roundw
        case rel => exact ⟨k + 1, by omega, by go_num, HB4.out⟩
        case measure => simp [intOf]; omega
    · obtain rfl : k = m := by omega
      go_wp2
      first | rfl | exact ⟨true, rfl, rfl, rfl, rfl, hb⟩ | exact ⟨rfl, rfl, rfl, hb⟩ | trace_state
end Go.Proofs.Ytmllcfkgkkbkpaa
