/-
  directives, find, number: the document's.
-/
import Derived.Test.YtnengooipemffaaDoorDirs
import Derived.Test.YtnengooipemffaaDoorRefUnq
import Derived.Test.YtnengooipemffaaDoorFields
import Derived.Test.YtnengooipemffaaDoorAppendW
import Derived.Deep.RegionHeld3
namespace Go.Proofs.YtnengooipemffaaDoor
open Go.RowKit

/-- the cells of directives -/
def deV (x : Ent) : List Value := [.string ⟨x.1.toArray⟩, .string ⟨x.2.1.toArray⟩, .bool x.2.2]
def de : List Ent → List Value
  | [] => []
  | x :: D => deV x ++ de D
theorem de_length (D : List Ent) : (de D).length = D.length * 3 := by
  induction D with
  | nil => rfl
  | cons x D ih => simp only [de, deV, List.length_append, List.length_cons, List.length_nil, ih]; omega
theorem de_append (D M : List Ent) : de (D ++ M) = de D ++ de M := by
  induction D with
  | nil => rfl
  | cons x D ih => simp only [List.cons_append, de, ih, List.append_assoc]
theorem de_one (D : List Ent) : ∀ u ∈ de D, u.oneCell' = true := by
  induction D with
  | nil => intro u hu; cases hu
  | cons x D ih =>
    intro u hu
    simp only [de, deV, List.cons_append, List.nil_append, List.mem_cons] at hu
    rcases hu with rfl | rfl | rfl | hu
    · rfl
    · rfl
    · rfl
    · exact ih u hu
theorem de_get (D : List Ent) (i : Nat) (h : i < D.length) : (de D)[i * 3]? = some (.string ⟨D[i].1.toArray⟩) ∧ (de D)[i * 3 + 1]? = some (.string ⟨D[i].2.1.toArray⟩) ∧ (de D)[i * 3 + 2]? = some (.bool D[i].2.2) := by
  induction D generalizing i with
  | nil => simp at h
  | cons x D ih =>
    cases i with
    | zero => simp [de, deV]
    | succ i =>
      have h2 := ih i (by simpa using h)
      have e1 : (i + 1) * 3 = i * 3 + 1 + 1 + 1 := by omega
      have e2 : (i + 1) * 3 + 1 = i * 3 + 1 + 1 + 1 + 1 := by omega
      have e3 : (i + 1) * 3 + 2 = i * 3 + 2 + 1 + 1 + 1 := by omega
      rw [e2, e3, e1]
      simpa [de, deV] using h2
def OwnD (w : World) (base : Nat) (v : Value) (D : List Ent) : Prop := w.ownsRow base 53 3 v D.length (de D)
theorem infoD : (Tryd.prog.info? 53).map (fun i => (i.zero, i.size, i.bytes)) = some (some (.agg #[.string .empty, .string .empty, .bool false]), 3, 40) := by kernel_rfl
theorem OwnD.made (w : World) : OwnD (w.alloc (.cells #[] 53)) w.heap.size (.slice (some ⟨w.heap.size, 0, none⟩) 0 0) [] :=
  ⟨rfl, .inr ⟨w.heap.size, 0, #[], rfl, Nat.le_refl _, heap_alloc_new w _, by simp, by unfold maxLen; omega, rfl, rfl⟩⟩
theorem OwnD.below {w w' : World} {base : Nat} {v : Value} {D : List Ent} (h : OwnD w base v D) (hb : Below w.heap.size w w') : OwnD w' base v D := ownsRow_below h hb
theorem OwnD.mono {w : World} {base base' : Nat} {v : Value} {D : List Ent} (h : OwnD w base v D) (hb : base' ≤ base) : OwnD w base' v D := ownsRow_mono h hb
theorem OwnD.alloc {w : World} {base : Nat} {v : Value} {D : List Ent} (h : OwnD w base v D) (o : Obj) : OwnD (w.alloc o) base v D := World.ownsRow.alloc h o
theorem OwnD.shape {w : World} {base n : Nat} {v : Value} {D : List Ent} (h : OwnD w base v D) (hn : D.length = n) :
    ∃ p c, v = .slice p n c ∧ n ≤ c ∧ c ≤ maxLen ∧ (0 < n → ∃ g, p = some ⟨g, 0, none⟩ ∧ g < w.heap.size ∧ ∀ j u, (de D)[j]? = some u → w.cell? ⟨g, j, none⟩ = some u) := by
  subst hn
  rcases h.2 with ⟨rfl, hn⟩ | ⟨g, cap, cur, rfl, hb, hg, hnc, hcm, hcs, ht⟩
  · exact ⟨none, 0, by rw [hn], by omega, by unfold maxLen; omega, fun h0 => by omega⟩
  · refine ⟨some ⟨g, 0, none⟩, cap, rfl, hnc, hcm, fun h0 => ⟨g, rfl, (Array.getElem?_eq_some_iff.1 hg).1, fun j v hv => ?_⟩⟩
    rw [cell_of_row _ _ _ _ _ _ hg, ← Array.getElem?_toList]
    have hj : j < D.length * 3 := by rw [← de_length]; exact (List.getElem?_eq_some_iff.1 hv).1
    rw [← ht, List.getElem?_take_of_lt hj] at hv
    exact hv

abbrev zeroD : Obj := .cells #[.string ⟨#[]⟩, .string ⟨#[]⟩, .bool false] 53
theorem box_block {w0 w5 : World} (hb : Below (w0.alloc zeroD).drew.heap.size (w0.alloc zeroD).drew w5) : w5.heap[w0.heap.size]? = some zeroD :=
  (hb.block w0.heap.size (by show w0.heap.size < (w0.alloc zeroD).heap.size; simp)).trans (heap_alloc_new w0 zeroD)
theorem box_cells {w0 w5 : World} (hb : Below (w0.alloc zeroD).drew.heap.size (w0.alloc zeroD).drew w5) :
    w5.cell? ⟨w0.heap.size, 0, none⟩ = some (.string ⟨#[]⟩) ∧ w5.cell? ⟨w0.heap.size, 1, none⟩ = some (.string ⟨#[]⟩) ∧ w5.cell? ⟨w0.heap.size, 2, none⟩ = some (.bool false) ∧ ∀ i, w5.frozen? ⟨w0.heap.size, i, none⟩ = false := by
  have g := box_block hb
  refine ⟨?_, ?_, ?_, fun i => frozen_of_row _ _ _ _ _ g⟩
  all_goals (rw [cell_of_row _ _ _ _ _ _ g]; rfl)
theorem box_other {w5 : World} {g b q : Nat} {v a1 a2 a3 : Value} (h : w5.cell? ⟨b, q, none⟩ = some v) (hne : b < g) : (((w5.setCell ⟨g, 0, none⟩ a1).setCell ⟨g, 1, none⟩ a2).setCell ⟨g, 2, none⟩ a3).cell? ⟨b, q, none⟩ = some v := by
  have n : ∀ i, (⟨g, i, none⟩ : Addr) ≠ ⟨b, q, none⟩ := fun i e => by
    have := congrArg Addr.block e
    simp at this
    omega
  have e : ∀ (W : World) (i : Nat) (a : Value), (W.setCell ⟨g, i, none⟩ a).cell? ⟨b, q, none⟩ = W.cell? ⟨b, q, none⟩ := fun W i a => World.cell?_of_block (w := W) (Below.heap_setCell W ⟨g, i, none⟩ a b (by simp; omega))
  rw [e, e, e, h]
theorem cut_fore (s : ByteArray) (k : Nat) : (s.extract 0 k).data.toList = s.data.toList.take k := by simp

section
variable {w : World}
/-- a directive onto directives of the call's own -/
theorem wpList_appendD {ops : Array Oper} {rest : List Oper} {o : Oper} {a : Act} {Q : Exit → Act → World → Prop} (hgd : o.guard = none) (s x : Operand)
    (ho : o.op = .call { callee := .builtin .append, args := #[s, x], argTypes := #[49, 49] })
    (base : Nat) (v : Value) (D : List Ent) (hv : a.eval s = v) (hown : OwnD w base v D)
    (g : Nat) (fn u : ByteArray) (c : Bool) (hx : a.eval x = .slice (some ⟨g, 0, none⟩) 1 1) (hbox : w.heap[g]? = some (.cells #[.string fn, .string u, .bool c] 53 (0, 0)))
    (hr : D.length + 1 ≤ 5500000000000) (hbase : base ≤ w.heap.size)
    (h : ∀ v' w', OwnD w' base v' (D ++ [(fn.data.toList, (u.data.toList, c))]) → w.grownBy w' v.ownBlock → Way w v v' → wpList Tryd.prog ops Q rest (a.put o.dst v') w') : wpList Tryd.prog ops Q (o :: rest) a w := by
  have hs : Src Tryd.prog 3 49 (.slice (some ⟨g, 0, none⟩) 1 1) 1 (de [(fn.data.toList, (u.data.toList, c))]) w := by
    refine Src.ofSlice w Tryd.underlying49 ⟨g, 0, none⟩ 1 1 _ (by rw [de_length]; rfl) (fun j q hj => ?_) (de_one _)
    rw [Go.WideShapes.add_plain, cell_of_row _ _ _ _ _ _ hbox, ← Array.getElem?_toList, ← hj]
    simp [de, deV]
  refine wpList_append_way w hgd s x 49 49 ho base 53 (.agg #[.string .empty, .string .empty, .bool false]) 3 40 Tryd.underlying49 infoD rfl v D.length (de D) hv hown _ 1 _ hx hs (by unfold maxLen; omega) (by omega) hbase ?_
  intro v' w' ho' hg hn
  exact h v' w' (by unfold OwnD; rw [List.length_append, de_append]; exact ho') hg hn
end
theorem InS.keptD {w w' : World} {p : Option Addr} {L : List (List UInt8)} {row : Option Nat} (h : InS w p L) (hg : w.grownBy w' row) (hne : ∀ a, p = some a → row ≠ some a.block) : InS w' p L := by
  intro h0
  obtain ⟨b, o, rfl, hc⟩ := h h0
  refine ⟨b, o, rfl, fun i hi => ?_⟩
  have hcell := hc i hi
  exact (World.cell?_of_block (w := w) (hg.block b (World.block_lt_of_cell? w _ hcell) (fun e => hne _ rfl e.symm))).trans hcell
theorem dirs_len (N : Nat) : ∀ V : List (List UInt8), (∀ v ∈ V, v.length ≤ N) → (dirsOf V).length ≤ V.length * (N + 1)
  | [], _ => by simp [dirsOf]
  | v :: V, h => by
    have ih := dirs_len N V (fun u hu => h u (List.mem_cons_of_mem _ hu))
    have h1 := listOf_length v
    have h2 := h v (by simp)
    have e : dirsOf (v :: V) = (listOf v).map dirT ++ dirsOf V := by unfold dirsOf; simp
    rw [e, List.length_append, List.length_map, List.length_cons, Nat.add_mul]
    omega

theorem head_of (s : ByteArray) (h : 0 < s.size) : s.data.toList.head? = some (s[0]) := by
  have hl : 0 < s.data.toList.length := by rw [size_list]; exact h
  have := bt_str s 0 h
  rw [bt_get _ 0 hl] at this
  rw [List.head?_eq_getElem?, List.getElem?_eq_getElem hl]
  exact congrArg some (UInt8.toNat_inj.1 (by omega))

set_option maxHeartbeats 16000000 in
set_option maxRecDepth 100000 in
theorem refDirs_any (L : List Pair) (p : Option Addr) (n c : Nat) (hn : L.length = n) (hr : n ≤ 1048576) (w : World) (h : In2 w p L) (hL : ∀ x ∈ L, x.1.length ≤ 1048576 ∧ x.2.length ≤ 1048576) :
    Calls Tryd.prog 26 #[.slice p n c] w fun e w' => ∃ v, e = .returned v ∧ OwnD w' w.heap.size v (dirsOf (valuesOf L [99, 97, 99, 104, 101, 45, 99, 111, 110, 116, 114, 111, 108])) ∧ Below w.heap.size w w' := by
  have HL1 := Lib.hid (show ∀ x ∈ L, x.1.length ≤ 140737488351232 from fun x hx => by have := (hL x hx).1; omega)
  have hvl := values_length L [99, 97, 99, 104, 101, 45, 99, 111, 110, 116, 114, 111, 108]
  obtain ⟨V, hV⟩ : ∃ V, V = valuesOf L [99, 97, 99, 104, 101, 45, 99, 111, 110, 116, 114, 111, 108] := ⟨_, rfl⟩
  have HVM := Lib.hid (show ∀ v ∈ V, v.length ≤ 1048576 by
    intro v hv
    rw [hV] at hv
    obtain ⟨x, hx, rfl⟩ := values_mem L _ v hv
    exact (hL x hx).2)
  have hv := refValues_any L p n c hn (by omega) ⟨#[99, 97, 99, 104, 101, 45, 99, 111, 110, 116, 114, 111, 108]⟩ (by decide) HL1.out (w.alloc (.cells #[] 53)) (h.alloc _)
  rw [show (⟨#[99, 97, 99, 104, 101, 45, 99, 111, 110, 116, 114, 111, 108]⟩ : ByteArray).data.toList = [99, 97, 99, 104, 101, 45, 99, 111, 110, 116, 114, 111, 108] from rfl, ← hV] at hv
  rw [← hV] at hvl ⊢
  clear hL hV
  have hown0 := OwnD.made w
  have hb0 := (Below.refl w.heap.size w).alloc (Nat.le_refl _) (.cells #[] 53)
  have hs0 : (w.alloc (.cells #[] 53)).heap.size = w.heap.size + 1 := by simp
  go_enter Tryd.func26, Tryd.ntmps26
  go_wp2_with fail
  refine hv.mono ?_
  rintro e w1 ⟨v1, rfl, hown1, hb1⟩
  have hown0' := hown0.below hb1
  have hB1 := hb0.trans (hb1.mono (by omega))
  have hs1 := hb1.size
  rw [hs0] at hs1 hown1
  obtain ⟨pv, cv, rfl, _, _, hinV, hpv⟩ := hown1.shape rfl
  have hdis0 : ∀ a gg, pv = some a → (Value.slice (some ⟨w.heap.size, 0, none⟩) 0 0).ownBlock = some gg → gg ≠ a.block := by
    intro a gg e1 e2
    have := (hpv a e1).1
    simp only [Value.ownBlock, Option.some.injEq] at e2
    omega
  clear hv hown1 hown0 hb0 hb1 hs0 hpv
  go_wp2_with fail
  go_loopw [3, 5] (fun o i wr => ∃ k : Nat, k ≤ V.length ∧ i = .int .i64 k ∧ OwnD wr w.heap.size o (dirsOf (V.take k)) ∧ Below w.heap.size w wr ∧ InS wr pv V ∧ (∀ a gg, pv = some a → o.ownBlock = some gg → gg ≠ a.block)) (fun _ i _ => V.length - (intOf i).toNat)
  case atStart => exact ⟨0, by omega, rfl, hown0', hB1, hinV, hdis0⟩
  case round =>
    clear hown0' hB1 hinV hdis0 hs1
    obtain ⟨k, hk, rfl, hown, hb, hbw, hdV⟩ := hrel
    have hbs := hb.size
    obtain ⟨wo, rfl⟩ : ∃ W, W = wr := ⟨_, rfl⟩
    by_cases hlt : k < V.length
    · obtain ⟨b', o', rfl, v, hck, hv⟩ := hbw.at hlt
      have hvs : v.size ≤ 1048576 := by rw [← size_list, hv]; exact HVM.out _ (List.getElem_mem hlt)
      have HVV := Lib.hid (dirs_snoc V k hlt)
      have HVE := Lib.hid hv
      have hdl : (dirsOf (V.take k)).length ≤ 1200000000000 := by
        have h1 := dirs_len 1048576 (V.take k) (fun v hv => HVM.out v (List.mem_of_mem_take hv))
        have h2 : (V.take k).length ≤ 1048576 := by rw [List.length_take]; omega
        have h3 := Nat.mul_le_mul_right (1048576 + 1) h2
        omega
      have hdV' : ∀ gg, u3.ownBlock = some gg → gg ≠ b' := fun gg e => hdV _ gg rfl e
      have hlo := fun gg (e : u3.ownBlock = some gg) => (World.ownsRow.lt hown gg e).2
      have HLO := Lib.hid hlo
      have HDV := Lib.hid hdV'
      clear hv hdV hdV' hlo
      go_wp2_with fail
      refine (refList_any v _ (by omega)).mono ?_
      rintro e w2 ⟨vl, rfl, hownl, hb2⟩
      have hlen := listOf_length v.data.toList
      obtain ⟨E, hE⟩ : ∃ E, E = listOf v.data.toList := ⟨_, rfl⟩
      have HEL := Lib.hid (show ∀ x ∈ E, x.length ≤ 1048576 by
        intro x hx
        rw [hE] at hx
        have := (listOf_el _ x hx).2.2.1
        rw [size_list] at this
        omega)
      rw [← hE] at hownl hlen
      rw [size_list] at hlen
      have HE := Lib.hid hE
      obtain ⟨q, cq, rfl, _, _, hinE, hqa⟩ := hownl.shape rfl
      have hdE : ∀ a gg, q = some a → u3.ownBlock = some gg → gg ≠ a.block := by
        intro a gg e1 e2
        have h1 := (hqa a e1).1
        have h2 := HLO.out gg e2
        omega
      have hB2 := hb.trans (hb2.mono hbs)
      have hs2 := hb2.size
      have hown2 := hown.below hb2
      have hV2 := hbw.below hb2
      clear hE hownl hqa hown hck hbw
      go_wp2_with fail
      go_loopw [3, 7] (fun o i wj => ∃ j : Nat, j ≤ E.length ∧ i = .int .i64 j ∧ OwnD wj w.heap.size o (dirsOf (V.take k) ++ (E.take j).map dirT) ∧ Below w.heap.size w wj ∧ InS wj q E ∧ InS wj (some ⟨b', o', none⟩) V ∧ (∀ a gg, q = some a → o.ownBlock = some gg → gg ≠ a.block) ∧ (∀ gg, o.ownBlock = some gg → gg ≠ b')) (fun _ i _ => E.length - (intOf i).toNat)
      case atStart => exact ⟨0, by omega, rfl, by simpa using hown2, hB2, hinE, hV2, hdE, HDV.out⟩
      case round =>
        clear hown2 hB2 hinE hV2 hb2 hb hs2 hdE HLO HDV
        obtain ⟨j, hj, rfl, hown, hB, hE, hV, hdE, hdV⟩ := hrel
        have hBs := hB.size
        obtain ⟨wj, rfl⟩ : ∃ W, W = wr := ⟨_, rfl⟩
        by_cases hjl : j < E.length
        · obtain ⟨b2, o2, rfl, x, hcx, hx⟩ := hE.at hjl
          have hxs : x.size ≤ 1048576 := by rw [← size_list, hx]; exact HEL.out _ (List.getElem_mem hjl)
          have HJ := Lib.hid (dirmap_snoc E j hjl)
          have HX := Lib.hid hx
          have hzx := size_list x
          have HZX := Lib.hid hzx
          have hdl2 : (dirsOf (V.take k) ++ (E.take j).map dirT).length + 1 ≤ 5500000000000 := by rw [List.length_append, List.length_map, List.length_take]; omega
          have HOWN := Lib.hid hown
          have HEE := Lib.hid hE
          have HVV2 := Lib.hid hV
          have HDE := Lib.hid (show ∀ gg, u3.ownBlock = some gg → gg ≠ b2 from fun gg e => hdE _ gg rfl e)
          have HDV := Lib.hid hdV
          have HCX := Lib.hid hcx
          have hbv : b' < wj.heap.size := by
            obtain ⟨b0, o0, e0, hc0⟩ := hV (by rw [tx_length]; omega)
            simp only [Option.some.injEq, Addr.mk.injEq, and_true] at e0
            have := World.block_lt_of_cell? wj _ (hc0 0 (by rw [tx_length]; omega))
            rw [e0.1]; exact this
          have hb2lt : b2 < wj.heap.size := World.block_lt_of_cell? wj _ hcx
          clear hx hzx hown hE hV hdE hdV
          go_wp2_with fail
          go_loopw [8] (fun i wk => ∃ m : Nat, m ≤ x.size ∧ i = .int .i64 m ∧ (∀ t, (ht : t < x.data.toList.length) → t < m → x.data.toList[t] ≠ 61) ∧ wj = wk) (fun i _ => x.size - (intOf i).toNat)
          case atStart => exact ⟨0, Nat.zero_le _, rfl, fun t _ h => absurd h (Nat.not_lt_zero t), rfl⟩
          case round =>
            obtain ⟨m, hm, rfl, hall, rfl⟩ := hrel
            have HALL := Lib.hid hall
            clear hall
            by_cases hml : m < x.size
            · have hml2 : m < x.data.toList.length := by rw [HZX.out]; exact hml
              have hxm : x.data.toList[m] = x[m] := by
                have := bt_str x m hml
                rw [bt_get _ m hml2] at this
                exact UInt8.toNat_inj.1 (by omega)
              have HXM := Lib.hid hxm
              clear hxm
              by_cases c1 : (x[m].toNat : Int) = 61
              · have c2 : ((x[m].toNat : Int) != 61) = false := by rw [bne, beq_iff_eq.2 c1]; rfl
                have HC := Lib.hid (cutB_some 61 x.data.toList m hml2 HALL.out (by rw [HXM.out]; exact UInt8.toNat_inj.1 (by show x[m].toNat = 61; omega)))
                clear c1
                obtain ⟨nb, hnb⟩ : ∃ nb : ByteArray, nb = x.extract 0 m := ⟨_, rfl⟩
                have hnbd : nb.data.toList = x.data.toList.take m := by rw [hnb]; exact cut_fore x m
                obtain ⟨fn, hfn⟩ : ∃ fn : ByteArray, fn = ⟨(fold nb.data.toList).toArray⟩ := ⟨_, rfl⟩
                have hnbs : nb.size ≤ 4000000 := by rw [← size_list, hnbd, List.length_take]; rw [HZX.out]; omega
                have HFD := Lib.hid (show fn.data.toList = fold (x.data.toList.take m) by rw [hfn, hnbd])
                obtain ⟨S, hS⟩ : ∃ S : World → Prop, S = fun W => W.cell? ⟨b2, o2 + j, none⟩ = some (.string x) := ⟨_, rfl⟩
                have step : ∀ W W', S W → Below W.heap.size W W' → S W' := by
                  intro W W' h1 hb
                  rw [hS] at h1 ⊢
                  exact cell_keep h1 hb
                have HLOW := Lib.hid (fun W (h : S W) => show Calls Tryd.prog 48 #[.string (x.extract 0 m)] W fun e w' => e = .returned (.string fn) ∧ S w' ∧ Below W.heap.size W w' by rw [← hnb, hfn]; exact (lower_any nb W (by omega)).mono fun _ _ ⟨h1, h2⟩ => ⟨h1, step _ _ h h2, h2⟩)
                have HSS := Lib.hid (fun W => show S W ↔ W.cell? ⟨b2, o2 + j, none⟩ = some (.string x) by rw [hS])
                have HST := Lib.hid step
                have HK0 := Lib.hid (show S wj.drew by rw [hS]; exact HCX.out)
                have HK1 := Lib.hid (show S (wj.alloc zeroD).drew by rw [hS]; exact cell_past (w := wj) HCX.out _)
                clear hnb hfn step hS
                go_wp2_with fail
                clear hcx
                go_region_held3 (fun w' => w'.cell? ⟨b2, o2 + j, none⟩ = some (.string x))
                  (first | (with_reducible exact (HSS.out _).1 HK0.out) | (with_reducible exact (HSS.out _).1 HK1.out) | (with_reducible exact (HSS.out _).1 HK5.out) | (with_reducible exact (HSS.out _).1 HK6.out) | (with_reducible exact (HSS.out _).1 HK7.out) | (with_reducible exact (HSS.out _).1 HK9.out))
                  (first | (go_at_call 48; with_reducible refine (HLOW.out _ ?_).mono ?_; (first | (with_reducible exact HK0.out) | (with_reducible exact HK1.out)); rintro e w5 ⟨rfl, hk5, hb5⟩; have HK5 := Lib.hid hk5; have HB5 := Lib.hid hb5; have HK6 := Lib.hid (HST.out _ (w5.alloc (.cells #[.string fn, .string ⟨#[]⟩, .bool true] 53)) hk5 ((Below.refl _ w5).alloc (Nat.le_refl _) _)); have HK7 := Lib.hid (HST.out _ (w5.alloc zeroD) hk5 ((Below.refl _ w5).alloc (Nat.le_refl _) _)); clear hk5 hb5; (first | (obtain ⟨y0, y1, y2, y3⟩ := box_cells HB5.out; have HYG := Lib.hid (box_block HB5.out); have HK9 := Lib.hid ((HSS.out _).2 (box_other (a1 := .string fn) (a2 := .string ⟨#[]⟩) (a3 := .bool true) ((HSS.out _).1 HK5.out) hb2lt))) | skip)))
                · obtain ⟨g, hg⟩ : ∃ g, g = w5.heap.size := ⟨_, rfl⟩
                  obtain ⟨WX, hWX⟩ : ∃ W, W = w5.alloc (.cells #[.string fn, .string ⟨#[]⟩, .bool true] 53) := ⟨_, rfl⟩
                  have hbox : WX.heap[g]? = some (.cells #[.string fn, .string ⟨#[]⟩, .bool true] 53 (0, 0)) := by rw [hWX, hg]; exact heap_alloc_new w5 _
                  have hBX : Below wj.heap.size wj WX := by rw [hWX]; exact (((Below.refl _ wj).drew).trans HB5.out).alloc HB5.out.size _
                  have hgl : wj.heap.size ≤ g := by rw [hg]; exact HB5.out.size
                  rw [← hWX, ← hg]
                  clear hWX hg
                  have hcX : WX.cell? ⟨b2, o2 + j, none⟩ = some (.string x) := cell_keep HCX.out hBX
                  have d0 : WX.cell? ⟨g, 0, none⟩ = some (.string fn) := by rw [cell_of_row _ _ _ _ _ _ hbox]; rfl
                  have d1 : WX.cell? ⟨g, 1, none⟩ = some (.string ⟨#[]⟩) := by rw [cell_of_row _ _ _ _ _ _ hbox]; rfl
                  have d2 : WX.cell? ⟨g, 2, none⟩ = some (.bool true) := by rw [cell_of_row _ _ _ _ _ _ hbox]; rfl
                  have d3 : ∀ i, WX.frozen? ⟨g, i, none⟩ = false := fun i => frozen_of_row _ _ _ _ _ hbox
                  have hXs := hBX.size
                  have g1 : (x.extract (m + 1) x.size).size = x.size - (m + 1) := by simp
                  have hrd : (x.extract (m + 1) x.size).data.toList = x.data.toList.drop (m + 1) := by
                    have : (x.extract (m + 1) x.size).data.toList = (x.data.toList.drop (m + 1)).take (x.size - (m + 1)) := by simp [ByteArray.data_extract]
                    rw [this, List.take_of_length_le (by rw [List.length_drop, HZX.out]; exact Nat.le_refl _)]
                  have hBs1 := hBX.setCell (p := ⟨g, 1, none⟩) hgl (.string (x.extract (m + 1) x.size))
                  by_cases hm1 : m + 1 < x.size
                  · have g2n : ¬ (x.extract (m + 1) x.size).toList = [] := by
                      rw [Lib.toList_data]
                      intro e
                      have := congrArg List.length e
                      rw [size_list, g1] at this
                      simp at this
                      omega
                    have g2 : ((x.extract (m + 1) x.size).toList == []) = false := beq_eq_false_iff_ne.2 g2n
                    by_cases hq : ((x.extract (m + 1) x.size)[0]'(by rw [g1]; omega)).toNat = 34
                    · have g3 : (((x.extract (m + 1) x.size)[0]'(by rw [g1]; omega)).toNat : Int) = 34 := by omega
                      obtain ⟨u, hu⟩ : ∃ u : ByteArray, u = ⟨(unqT (x.extract (m + 1) x.size).data.toList).toArray⟩ := ⟨_, rfl⟩
                      have HD := Lib.hid (show dirT x.data.toList = (fold (x.data.toList.take m), (u.data.toList, true)) by
                        unfold dirT
                        rw [HC.out]
                        simp only [dirC]
                        rw [if_pos, hu, hrd]
                        rw [← hrd, head_of (x.extract (m + 1) x.size) (by rw [g1]; omega)]
                        exact congrArg some (UInt8.toNat_inj.1 hq))
                      have hun := refUnq_any (x.extract (m + 1) x.size) (WX.setCell ⟨g, 1, none⟩ (.string (x.extract (m + 1) x.size))) (by rw [g1]; omega)
                      rw [← hu] at hun
                      clear hu hq hrd
                      go_wp2_with fail
                      refine hun.mono ?_
                      rintro e w6 ⟨rfl, hb6⟩
                      have hb6s := hb6.size
                      have hbg : w6.heap[g]? = some (.cells #[.string fn, .string (x.extract (m + 1) x.size), .bool true] 53 (0, 0)) := (hb6.block g (by simp [World.setCell]; exact (Array.getElem?_eq_some_iff.1 hbox).1)).trans (heap_setCell_same _ _ _ _ _ _ hbox)
                      have k0 : w6.cell? ⟨g, 0, none⟩ = some (.string fn) := by rw [cell_of_row _ _ _ _ _ _ hbg]; rfl
                      have k1 : w6.cell? ⟨g, 1, none⟩ = some (.string (x.extract (m + 1) x.size)) := by rw [cell_of_row _ _ _ _ _ _ hbg]; rfl
                      have k2 : w6.cell? ⟨g, 2, none⟩ = some (.bool true) := by rw [cell_of_row _ _ _ _ _ _ hbg]; rfl
                      have k3 : ∀ i, w6.frozen? ⟨g, i, none⟩ = false := fun i => frozen_of_row _ _ _ _ _ hbg
                      have hB6' := (hBs1.trans (hb6.mono (by simp [World.setCell]; exact hXs))).setCell (p := ⟨g, 1, none⟩) hgl (.string u)
                      clear hun d0 d1 d2 d3 hcX
                      have hB6 := (hB6').alloc (show wj.heap.size ≤ (w6.setCell ⟨g, 1, none⟩ (.string u)).heap.size from (hB6').size) (.cells #[.string fn, .string (u), .bool true] 53)
                      have hownA := HOWN.out.below hB6
                      have HB6 := Lib.hid hB6
                      have HNEW := Lib.hid (show ((w6.setCell ⟨g, 1, none⟩ (.string u)).alloc (.cells #[.string fn, .string (u), .bool true] 53)).heap[(w6).heap.size]? = some (.cells #[.string fn, .string (u), .bool true] 53 (0, 0)) by
                        have h := heap_alloc_new (w6.setCell ⟨g, 1, none⟩ (.string u)) (.cells #[.string fn, .string (u), .bool true] 53)
                        have e : (w6.setCell ⟨g, 1, none⟩ (.string u)).heap.size = (w6).heap.size := by simp [World.setCell]
                        rwa [e] at h)
                      have hs6 : w.heap.size ≤ ((w6.setCell ⟨g, 1, none⟩ (.string u)).alloc (.cells #[.string fn, .string (u), .bool true] 53)).heap.size := Nat.le_trans hBs hB6.size
                      have HS6 := Lib.hid hs6
                      clear hB6 hs6
                      go_wp2_with (at_builtin; refine wpList_appendD rfl _ _ rfl w.heap.size _ _ rfl hownA (w6).heap.size fn (u) true rfl HNEW.out hdl2 HS6.out ?_; intro v4 w4 hown4 hgrow4 hway4)
                      have hfin : OwnD w4 w.heap.size v4 (dirsOf (V.take k) ++ (E.take (j + 1)).map dirT) := by
                        rw [HJ.out, ← show x.data.toList = E[j] from HX.out, ← List.append_assoc, HD.out, ← show fn.data.toList = fold (x.data.toList.take m) from HFD.out]
                        exact hown4
                      have hWz := HB6.out.size
                      have hBfin : Below w.heap.size w w4 := (hB.trans (HB6.out.mono hBs)).grown hgrow4 HS6.out (fun q e => (World.ownsRow.lt hownA q e).1)
                      have hEfin : InS w4 (some ⟨b2, o2, none⟩) E := (HEE.out.below HB6.out).keptD hgrow4 (fun a e => by
                        obtain rfl := Option.some.inj e
                        intro e2
                        exact HDE.out _ e2 rfl)
                      have hVfin : InS w4 (some ⟨b', o', none⟩) V := (HVV2.out.below HB6.out).keptD hgrow4 (fun a e => by
                        obtain rfl := Option.some.inj e
                        intro e2
                        exact HDV.out _ e2 rfl)
                      have hdE : ∀ a gg, (some ⟨b2, o2, none⟩ : Option Addr) = some a → v4.ownBlock = some gg → gg ≠ a.block := by
                        intro a gg e1 e2
                        obtain rfl := Option.some.inj e1
                        rcases hway4 gg e2 with h1 | h1
                        · exact HDE.out gg h1
                        · show gg ≠ b2
                          omega
                      have hdV : ∀ gg, v4.ownBlock = some gg → gg ≠ b' := by
                        intro gg e2
                        rcases hway4 gg e2 with h1 | h1
                        · exact HDV.out gg h1
                        · omega
                      go_roundw
                      case rel => exact ⟨j + 1, by omega, by go_num, hfin, hBfin, hEfin, hVfin, hdE, hdV⟩
                      case measure => simp [intOf]; omega
                    · have g3 : ¬ (((x.extract (m + 1) x.size)[0]'(by rw [g1]; omega)).toNat : Int) = 34 := by omega
                      have g4 : ((((x.extract (m + 1) x.size)[0]'(by rw [g1]; omega)).toNat : Int) == 34) = false := beq_eq_false_iff_ne.2 g3
                      have HD := Lib.hid (show dirT x.data.toList = (fold (x.data.toList.take m), ((x.extract (m + 1) x.size).data.toList, true)) by
                        unfold dirT
                        rw [HC.out]
                        simp only [dirC]
                        rw [if_neg, hrd]
                        rw [← hrd, head_of (x.extract (m + 1) x.size) (by rw [g1]; omega)]
                        intro e
                        exact hq (by rw [Option.some.inj e]; rfl))
                      have HQ2 := Lib.hid hq
                      clear hrd
                      have hB6 := (hBs1).alloc (show wj.heap.size ≤ (WX.setCell ⟨g, 1, none⟩ (.string (x.extract (m + 1) x.size))).heap.size from (hBs1).size) (.cells #[.string fn, .string ((x.extract (m + 1) x.size)), .bool true] 53)
                      have hownA := HOWN.out.below hB6
                      have HB6 := Lib.hid hB6
                      have HNEW := Lib.hid (show ((WX.setCell ⟨g, 1, none⟩ (.string (x.extract (m + 1) x.size))).alloc (.cells #[.string fn, .string ((x.extract (m + 1) x.size)), .bool true] 53)).heap[(WX).heap.size]? = some (.cells #[.string fn, .string ((x.extract (m + 1) x.size)), .bool true] 53 (0, 0)) by
                        have h := heap_alloc_new (WX.setCell ⟨g, 1, none⟩ (.string (x.extract (m + 1) x.size))) (.cells #[.string fn, .string ((x.extract (m + 1) x.size)), .bool true] 53)
                        have e : (WX.setCell ⟨g, 1, none⟩ (.string (x.extract (m + 1) x.size))).heap.size = (WX).heap.size := by simp [World.setCell]
                        rwa [e] at h)
                      have hs6 : w.heap.size ≤ ((WX.setCell ⟨g, 1, none⟩ (.string (x.extract (m + 1) x.size))).alloc (.cells #[.string fn, .string ((x.extract (m + 1) x.size)), .bool true] 53)).heap.size := Nat.le_trans hBs hB6.size
                      have HS6 := Lib.hid hs6
                      clear hB6 hs6
                      go_wp2_with (at_builtin; refine wpList_appendD rfl _ _ rfl w.heap.size _ _ rfl hownA (WX).heap.size fn ((x.extract (m + 1) x.size)) true rfl HNEW.out hdl2 HS6.out ?_; intro v4 w4 hown4 hgrow4 hway4)
                      have hfin : OwnD w4 w.heap.size v4 (dirsOf (V.take k) ++ (E.take (j + 1)).map dirT) := by
                        rw [HJ.out, ← show x.data.toList = E[j] from HX.out, ← List.append_assoc, HD.out, ← show fn.data.toList = fold (x.data.toList.take m) from HFD.out]
                        exact hown4
                      have hWz := HB6.out.size
                      have hBfin : Below w.heap.size w w4 := (hB.trans (HB6.out.mono hBs)).grown hgrow4 HS6.out (fun q e => (World.ownsRow.lt hownA q e).1)
                      have hEfin : InS w4 (some ⟨b2, o2, none⟩) E := (HEE.out.below HB6.out).keptD hgrow4 (fun a e => by
                        obtain rfl := Option.some.inj e
                        intro e2
                        exact HDE.out _ e2 rfl)
                      have hVfin : InS w4 (some ⟨b', o', none⟩) V := (HVV2.out.below HB6.out).keptD hgrow4 (fun a e => by
                        obtain rfl := Option.some.inj e
                        intro e2
                        exact HDV.out _ e2 rfl)
                      have hdE : ∀ a gg, (some ⟨b2, o2, none⟩ : Option Addr) = some a → v4.ownBlock = some gg → gg ≠ a.block := by
                        intro a gg e1 e2
                        obtain rfl := Option.some.inj e1
                        rcases hway4 gg e2 with h1 | h1
                        · exact HDE.out gg h1
                        · show gg ≠ b2
                          omega
                      have hdV : ∀ gg, v4.ownBlock = some gg → gg ≠ b' := by
                        intro gg e2
                        rcases hway4 gg e2 with h1 | h1
                        · exact HDV.out gg h1
                        · omega
                      go_roundw
                      case rel => exact ⟨j + 1, by omega, by go_num, hfin, hBfin, hEfin, hVfin, hdE, hdV⟩
                      case measure => simp [intOf]; omega
                  · have g2n : (x.extract (m + 1) x.size).toList = [] := by
                      rw [Lib.toList_data]
                      apply List.length_eq_zero_iff.1
                      rw [size_list, g1]
                      omega
                    have HD := Lib.hid (show dirT x.data.toList = (fold (x.data.toList.take m), ((x.extract (m + 1) x.size).data.toList, true)) by
                      unfold dirT
                      rw [HC.out]
                      simp only [dirC]
                      rw [if_neg, hrd]
                      have : x.data.toList.drop (m + 1) = [] := List.drop_of_length_le (by rw [HZX.out]; omega)
                      rw [this]
                      simp)
                    clear hrd
                    have hB6 := (hBs1).alloc (show wj.heap.size ≤ (WX.setCell ⟨g, 1, none⟩ (.string (x.extract (m + 1) x.size))).heap.size from (hBs1).size) (.cells #[.string fn, .string ((x.extract (m + 1) x.size)), .bool true] 53)
                    have hownA := HOWN.out.below hB6
                    have HB6 := Lib.hid hB6
                    have HNEW := Lib.hid (show ((WX.setCell ⟨g, 1, none⟩ (.string (x.extract (m + 1) x.size))).alloc (.cells #[.string fn, .string ((x.extract (m + 1) x.size)), .bool true] 53)).heap[(WX).heap.size]? = some (.cells #[.string fn, .string ((x.extract (m + 1) x.size)), .bool true] 53 (0, 0)) by
                      have h := heap_alloc_new (WX.setCell ⟨g, 1, none⟩ (.string (x.extract (m + 1) x.size))) (.cells #[.string fn, .string ((x.extract (m + 1) x.size)), .bool true] 53)
                      have e : (WX.setCell ⟨g, 1, none⟩ (.string (x.extract (m + 1) x.size))).heap.size = (WX).heap.size := by simp [World.setCell]
                      rwa [e] at h)
                    have hs6 : w.heap.size ≤ ((WX.setCell ⟨g, 1, none⟩ (.string (x.extract (m + 1) x.size))).alloc (.cells #[.string fn, .string ((x.extract (m + 1) x.size)), .bool true] 53)).heap.size := Nat.le_trans hBs hB6.size
                    have HS6 := Lib.hid hs6
                    clear hB6 hs6
                    go_wp2_with (at_builtin; refine wpList_appendD rfl _ _ rfl w.heap.size _ _ rfl hownA (WX).heap.size fn ((x.extract (m + 1) x.size)) true rfl HNEW.out hdl2 HS6.out ?_; intro v4 w4 hown4 hgrow4 hway4)
                    have hfin : OwnD w4 w.heap.size v4 (dirsOf (V.take k) ++ (E.take (j + 1)).map dirT) := by
                      rw [HJ.out, ← show x.data.toList = E[j] from HX.out, ← List.append_assoc, HD.out, ← show fn.data.toList = fold (x.data.toList.take m) from HFD.out]
                      exact hown4
                    have hWz := HB6.out.size
                    have hBfin : Below w.heap.size w w4 := (hB.trans (HB6.out.mono hBs)).grown hgrow4 HS6.out (fun q e => (World.ownsRow.lt hownA q e).1)
                    have hEfin : InS w4 (some ⟨b2, o2, none⟩) E := (HEE.out.below HB6.out).keptD hgrow4 (fun a e => by
                      obtain rfl := Option.some.inj e
                      intro e2
                      exact HDE.out _ e2 rfl)
                    have hVfin : InS w4 (some ⟨b', o', none⟩) V := (HVV2.out.below HB6.out).keptD hgrow4 (fun a e => by
                      obtain rfl := Option.some.inj e
                      intro e2
                      exact HDV.out _ e2 rfl)
                    have hdE : ∀ a gg, (some ⟨b2, o2, none⟩ : Option Addr) = some a → v4.ownBlock = some gg → gg ≠ a.block := by
                      intro a gg e1 e2
                      obtain rfl := Option.some.inj e1
                      rcases hway4 gg e2 with h1 | h1
                      · exact HDE.out gg h1
                      · show gg ≠ b2
                        omega
                    have hdV : ∀ gg, v4.ownBlock = some gg → gg ≠ b' := by
                      intro gg e2
                      rcases hway4 gg e2 with h1 | h1
                      · exact HDV.out gg h1
                      · omega
                    go_roundw
                    case rel => exact ⟨j + 1, by omega, by go_num, hfin, hBfin, hEfin, hVfin, hdE, hdV⟩
                    case measure => simp [intOf]; omega
                · obtain ⟨g, hg⟩ : ∃ g, g = wj.heap.size := ⟨_, rfl⟩
                  obtain ⟨WX, hWX⟩ : ∃ W, W = ((w5.setCell ⟨wj.heap.size, 0, none⟩ (.string fn)).setCell ⟨wj.heap.size, 1, none⟩ (.string ⟨#[]⟩)).setCell ⟨wj.heap.size, 2, none⟩ (.bool true) := ⟨_, rfl⟩
                  have hbox : WX.heap[g]? = some (.cells #[.string fn, .string ⟨#[]⟩, .bool true] 53 (0, 0)) := by
                    rw [hWX, hg]
                    exact heap_setCell_same _ _ _ _ _ _ (heap_setCell_same _ _ _ _ _ _ (heap_setCell_same _ _ _ _ _ _ HYG.out))
                  have hBX : Below wj.heap.size wj WX := by
                    rw [hWX]
                    have h0 : Below wj.heap.size wj w5 := (((Below.refl _ wj).alloc (Nat.le_refl _) zeroD).drew).trans (HB5.out.mono (by show wj.heap.size ≤ (wj.alloc zeroD).heap.size; simp))
                    exact ((h0.setCell (p := ⟨wj.heap.size, 0, none⟩) (Nat.le_refl _) _).setCell (p := ⟨wj.heap.size, 1, none⟩) (Nat.le_refl _) _).setCell (p := ⟨wj.heap.size, 2, none⟩) (Nat.le_refl _) _
                  have hgl : wj.heap.size ≤ g := by rw [hg]; exact Nat.le_refl _
                  rw [← hWX, ← hg]
                  clear hWX hg y0 y1 y2 y3
                  have hcX : WX.cell? ⟨b2, o2 + j, none⟩ = some (.string x) := cell_keep HCX.out hBX
                  have d0 : WX.cell? ⟨g, 0, none⟩ = some (.string fn) := by rw [cell_of_row _ _ _ _ _ _ hbox]; rfl
                  have d1 : WX.cell? ⟨g, 1, none⟩ = some (.string ⟨#[]⟩) := by rw [cell_of_row _ _ _ _ _ _ hbox]; rfl
                  have d2 : WX.cell? ⟨g, 2, none⟩ = some (.bool true) := by rw [cell_of_row _ _ _ _ _ _ hbox]; rfl
                  have d3 : ∀ i, WX.frozen? ⟨g, i, none⟩ = false := fun i => frozen_of_row _ _ _ _ _ hbox
                  have hXs := hBX.size
                  have g1 : (x.extract (m + 1) x.size).size = x.size - (m + 1) := by simp
                  have hrd : (x.extract (m + 1) x.size).data.toList = x.data.toList.drop (m + 1) := by
                    have : (x.extract (m + 1) x.size).data.toList = (x.data.toList.drop (m + 1)).take (x.size - (m + 1)) := by simp [ByteArray.data_extract]
                    rw [this, List.take_of_length_le (by rw [List.length_drop, HZX.out]; exact Nat.le_refl _)]
                  have hBs1 := hBX.setCell (p := ⟨g, 1, none⟩) hgl (.string (x.extract (m + 1) x.size))
                  by_cases hm1 : m + 1 < x.size
                  · have g2n : ¬ (x.extract (m + 1) x.size).toList = [] := by
                      rw [Lib.toList_data]
                      intro e
                      have := congrArg List.length e
                      rw [size_list, g1] at this
                      simp at this
                      omega
                    have g2 : ((x.extract (m + 1) x.size).toList == []) = false := beq_eq_false_iff_ne.2 g2n
                    by_cases hq : ((x.extract (m + 1) x.size)[0]'(by rw [g1]; omega)).toNat = 34
                    · have g3 : (((x.extract (m + 1) x.size)[0]'(by rw [g1]; omega)).toNat : Int) = 34 := by omega
                      obtain ⟨u, hu⟩ : ∃ u : ByteArray, u = ⟨(unqT (x.extract (m + 1) x.size).data.toList).toArray⟩ := ⟨_, rfl⟩
                      have HD := Lib.hid (show dirT x.data.toList = (fold (x.data.toList.take m), (u.data.toList, true)) by
                        unfold dirT
                        rw [HC.out]
                        simp only [dirC]
                        rw [if_pos, hu, hrd]
                        rw [← hrd, head_of (x.extract (m + 1) x.size) (by rw [g1]; omega)]
                        exact congrArg some (UInt8.toNat_inj.1 hq))
                      have hun := refUnq_any (x.extract (m + 1) x.size) (WX.setCell ⟨g, 1, none⟩ (.string (x.extract (m + 1) x.size))) (by rw [g1]; omega)
                      rw [← hu] at hun
                      clear hu hq hrd
                      go_wp2_with fail
                      refine hun.mono ?_
                      rintro e w6 ⟨rfl, hb6⟩
                      have hb6s := hb6.size
                      have hbg : w6.heap[g]? = some (.cells #[.string fn, .string (x.extract (m + 1) x.size), .bool true] 53 (0, 0)) := (hb6.block g (by simp [World.setCell]; exact (Array.getElem?_eq_some_iff.1 hbox).1)).trans (heap_setCell_same _ _ _ _ _ _ hbox)
                      have k0 : w6.cell? ⟨g, 0, none⟩ = some (.string fn) := by rw [cell_of_row _ _ _ _ _ _ hbg]; rfl
                      have k1 : w6.cell? ⟨g, 1, none⟩ = some (.string (x.extract (m + 1) x.size)) := by rw [cell_of_row _ _ _ _ _ _ hbg]; rfl
                      have k2 : w6.cell? ⟨g, 2, none⟩ = some (.bool true) := by rw [cell_of_row _ _ _ _ _ _ hbg]; rfl
                      have k3 : ∀ i, w6.frozen? ⟨g, i, none⟩ = false := fun i => frozen_of_row _ _ _ _ _ hbg
                      have hB6' := (hBs1.trans (hb6.mono (by simp [World.setCell]; exact hXs))).setCell (p := ⟨g, 1, none⟩) hgl (.string u)
                      clear hun d0 d1 d2 d3 hcX
                      have hB6 := (hB6').alloc (show wj.heap.size ≤ (w6.setCell ⟨g, 1, none⟩ (.string u)).heap.size from (hB6').size) (.cells #[.string fn, .string (u), .bool true] 53)
                      have hownA := HOWN.out.below hB6
                      have HB6 := Lib.hid hB6
                      have HNEW := Lib.hid (show ((w6.setCell ⟨g, 1, none⟩ (.string u)).alloc (.cells #[.string fn, .string (u), .bool true] 53)).heap[(w6).heap.size]? = some (.cells #[.string fn, .string (u), .bool true] 53 (0, 0)) by
                        have h := heap_alloc_new (w6.setCell ⟨g, 1, none⟩ (.string u)) (.cells #[.string fn, .string (u), .bool true] 53)
                        have e : (w6.setCell ⟨g, 1, none⟩ (.string u)).heap.size = (w6).heap.size := by simp [World.setCell]
                        rwa [e] at h)
                      have hs6 : w.heap.size ≤ ((w6.setCell ⟨g, 1, none⟩ (.string u)).alloc (.cells #[.string fn, .string (u), .bool true] 53)).heap.size := Nat.le_trans hBs hB6.size
                      have HS6 := Lib.hid hs6
                      clear hB6 hs6
                      go_wp2_with (at_builtin; refine wpList_appendD rfl _ _ rfl w.heap.size _ _ rfl hownA (w6).heap.size fn (u) true rfl HNEW.out hdl2 HS6.out ?_; intro v4 w4 hown4 hgrow4 hway4)
                      have hfin : OwnD w4 w.heap.size v4 (dirsOf (V.take k) ++ (E.take (j + 1)).map dirT) := by
                        rw [HJ.out, ← show x.data.toList = E[j] from HX.out, ← List.append_assoc, HD.out, ← show fn.data.toList = fold (x.data.toList.take m) from HFD.out]
                        exact hown4
                      have hWz := HB6.out.size
                      have hBfin : Below w.heap.size w w4 := (hB.trans (HB6.out.mono hBs)).grown hgrow4 HS6.out (fun q e => (World.ownsRow.lt hownA q e).1)
                      have hEfin : InS w4 (some ⟨b2, o2, none⟩) E := (HEE.out.below HB6.out).keptD hgrow4 (fun a e => by
                        obtain rfl := Option.some.inj e
                        intro e2
                        exact HDE.out _ e2 rfl)
                      have hVfin : InS w4 (some ⟨b', o', none⟩) V := (HVV2.out.below HB6.out).keptD hgrow4 (fun a e => by
                        obtain rfl := Option.some.inj e
                        intro e2
                        exact HDV.out _ e2 rfl)
                      have hdE : ∀ a gg, (some ⟨b2, o2, none⟩ : Option Addr) = some a → v4.ownBlock = some gg → gg ≠ a.block := by
                        intro a gg e1 e2
                        obtain rfl := Option.some.inj e1
                        rcases hway4 gg e2 with h1 | h1
                        · exact HDE.out gg h1
                        · show gg ≠ b2
                          omega
                      have hdV : ∀ gg, v4.ownBlock = some gg → gg ≠ b' := by
                        intro gg e2
                        rcases hway4 gg e2 with h1 | h1
                        · exact HDV.out gg h1
                        · omega
                      go_roundw
                      case rel => exact ⟨j + 1, by omega, by go_num, hfin, hBfin, hEfin, hVfin, hdE, hdV⟩
                      case measure => simp [intOf]; omega
                    · have g3 : ¬ (((x.extract (m + 1) x.size)[0]'(by rw [g1]; omega)).toNat : Int) = 34 := by omega
                      have g4 : ((((x.extract (m + 1) x.size)[0]'(by rw [g1]; omega)).toNat : Int) == 34) = false := beq_eq_false_iff_ne.2 g3
                      have HD := Lib.hid (show dirT x.data.toList = (fold (x.data.toList.take m), ((x.extract (m + 1) x.size).data.toList, true)) by
                        unfold dirT
                        rw [HC.out]
                        simp only [dirC]
                        rw [if_neg, hrd]
                        rw [← hrd, head_of (x.extract (m + 1) x.size) (by rw [g1]; omega)]
                        intro e
                        exact hq (by rw [Option.some.inj e]; rfl))
                      have HQ2 := Lib.hid hq
                      clear hrd
                      have hB6 := (hBs1).alloc (show wj.heap.size ≤ (WX.setCell ⟨g, 1, none⟩ (.string (x.extract (m + 1) x.size))).heap.size from (hBs1).size) (.cells #[.string fn, .string ((x.extract (m + 1) x.size)), .bool true] 53)
                      have hownA := HOWN.out.below hB6
                      have HB6 := Lib.hid hB6
                      have HNEW := Lib.hid (show ((WX.setCell ⟨g, 1, none⟩ (.string (x.extract (m + 1) x.size))).alloc (.cells #[.string fn, .string ((x.extract (m + 1) x.size)), .bool true] 53)).heap[(WX).heap.size]? = some (.cells #[.string fn, .string ((x.extract (m + 1) x.size)), .bool true] 53 (0, 0)) by
                        have h := heap_alloc_new (WX.setCell ⟨g, 1, none⟩ (.string (x.extract (m + 1) x.size))) (.cells #[.string fn, .string ((x.extract (m + 1) x.size)), .bool true] 53)
                        have e : (WX.setCell ⟨g, 1, none⟩ (.string (x.extract (m + 1) x.size))).heap.size = (WX).heap.size := by simp [World.setCell]
                        rwa [e] at h)
                      have hs6 : w.heap.size ≤ ((WX.setCell ⟨g, 1, none⟩ (.string (x.extract (m + 1) x.size))).alloc (.cells #[.string fn, .string ((x.extract (m + 1) x.size)), .bool true] 53)).heap.size := Nat.le_trans hBs hB6.size
                      have HS6 := Lib.hid hs6
                      clear hB6 hs6
                      go_wp2_with (at_builtin; refine wpList_appendD rfl _ _ rfl w.heap.size _ _ rfl hownA (WX).heap.size fn ((x.extract (m + 1) x.size)) true rfl HNEW.out hdl2 HS6.out ?_; intro v4 w4 hown4 hgrow4 hway4)
                      have hfin : OwnD w4 w.heap.size v4 (dirsOf (V.take k) ++ (E.take (j + 1)).map dirT) := by
                        rw [HJ.out, ← show x.data.toList = E[j] from HX.out, ← List.append_assoc, HD.out, ← show fn.data.toList = fold (x.data.toList.take m) from HFD.out]
                        exact hown4
                      have hWz := HB6.out.size
                      have hBfin : Below w.heap.size w w4 := (hB.trans (HB6.out.mono hBs)).grown hgrow4 HS6.out (fun q e => (World.ownsRow.lt hownA q e).1)
                      have hEfin : InS w4 (some ⟨b2, o2, none⟩) E := (HEE.out.below HB6.out).keptD hgrow4 (fun a e => by
                        obtain rfl := Option.some.inj e
                        intro e2
                        exact HDE.out _ e2 rfl)
                      have hVfin : InS w4 (some ⟨b', o', none⟩) V := (HVV2.out.below HB6.out).keptD hgrow4 (fun a e => by
                        obtain rfl := Option.some.inj e
                        intro e2
                        exact HDV.out _ e2 rfl)
                      have hdE : ∀ a gg, (some ⟨b2, o2, none⟩ : Option Addr) = some a → v4.ownBlock = some gg → gg ≠ a.block := by
                        intro a gg e1 e2
                        obtain rfl := Option.some.inj e1
                        rcases hway4 gg e2 with h1 | h1
                        · exact HDE.out gg h1
                        · show gg ≠ b2
                          omega
                      have hdV : ∀ gg, v4.ownBlock = some gg → gg ≠ b' := by
                        intro gg e2
                        rcases hway4 gg e2 with h1 | h1
                        · exact HDV.out gg h1
                        · omega
                      go_roundw
                      case rel => exact ⟨j + 1, by omega, by go_num, hfin, hBfin, hEfin, hVfin, hdE, hdV⟩
                      case measure => simp [intOf]; omega
                  · have g2n : (x.extract (m + 1) x.size).toList = [] := by
                      rw [Lib.toList_data]
                      apply List.length_eq_zero_iff.1
                      rw [size_list, g1]
                      omega
                    have HD := Lib.hid (show dirT x.data.toList = (fold (x.data.toList.take m), ((x.extract (m + 1) x.size).data.toList, true)) by
                      unfold dirT
                      rw [HC.out]
                      simp only [dirC]
                      rw [if_neg, hrd]
                      have : x.data.toList.drop (m + 1) = [] := List.drop_of_length_le (by rw [HZX.out]; omega)
                      rw [this]
                      simp)
                    clear hrd
                    have hB6 := (hBs1).alloc (show wj.heap.size ≤ (WX.setCell ⟨g, 1, none⟩ (.string (x.extract (m + 1) x.size))).heap.size from (hBs1).size) (.cells #[.string fn, .string ((x.extract (m + 1) x.size)), .bool true] 53)
                    have hownA := HOWN.out.below hB6
                    have HB6 := Lib.hid hB6
                    have HNEW := Lib.hid (show ((WX.setCell ⟨g, 1, none⟩ (.string (x.extract (m + 1) x.size))).alloc (.cells #[.string fn, .string ((x.extract (m + 1) x.size)), .bool true] 53)).heap[(WX).heap.size]? = some (.cells #[.string fn, .string ((x.extract (m + 1) x.size)), .bool true] 53 (0, 0)) by
                      have h := heap_alloc_new (WX.setCell ⟨g, 1, none⟩ (.string (x.extract (m + 1) x.size))) (.cells #[.string fn, .string ((x.extract (m + 1) x.size)), .bool true] 53)
                      have e : (WX.setCell ⟨g, 1, none⟩ (.string (x.extract (m + 1) x.size))).heap.size = (WX).heap.size := by simp [World.setCell]
                      rwa [e] at h)
                    have hs6 : w.heap.size ≤ ((WX.setCell ⟨g, 1, none⟩ (.string (x.extract (m + 1) x.size))).alloc (.cells #[.string fn, .string ((x.extract (m + 1) x.size)), .bool true] 53)).heap.size := Nat.le_trans hBs hB6.size
                    have HS6 := Lib.hid hs6
                    clear hB6 hs6
                    go_wp2_with (at_builtin; refine wpList_appendD rfl _ _ rfl w.heap.size _ _ rfl hownA (WX).heap.size fn ((x.extract (m + 1) x.size)) true rfl HNEW.out hdl2 HS6.out ?_; intro v4 w4 hown4 hgrow4 hway4)
                    have hfin : OwnD w4 w.heap.size v4 (dirsOf (V.take k) ++ (E.take (j + 1)).map dirT) := by
                      rw [HJ.out, ← show x.data.toList = E[j] from HX.out, ← List.append_assoc, HD.out, ← show fn.data.toList = fold (x.data.toList.take m) from HFD.out]
                      exact hown4
                    have hWz := HB6.out.size
                    have hBfin : Below w.heap.size w w4 := (hB.trans (HB6.out.mono hBs)).grown hgrow4 HS6.out (fun q e => (World.ownsRow.lt hownA q e).1)
                    have hEfin : InS w4 (some ⟨b2, o2, none⟩) E := (HEE.out.below HB6.out).keptD hgrow4 (fun a e => by
                      obtain rfl := Option.some.inj e
                      intro e2
                      exact HDE.out _ e2 rfl)
                    have hVfin : InS w4 (some ⟨b', o', none⟩) V := (HVV2.out.below HB6.out).keptD hgrow4 (fun a e => by
                      obtain rfl := Option.some.inj e
                      intro e2
                      exact HDV.out _ e2 rfl)
                    have hdE : ∀ a gg, (some ⟨b2, o2, none⟩ : Option Addr) = some a → v4.ownBlock = some gg → gg ≠ a.block := by
                      intro a gg e1 e2
                      obtain rfl := Option.some.inj e1
                      rcases hway4 gg e2 with h1 | h1
                      · exact HDE.out gg h1
                      · show gg ≠ b2
                        omega
                    have hdV : ∀ gg, v4.ownBlock = some gg → gg ≠ b' := by
                      intro gg e2
                      rcases hway4 gg e2 with h1 | h1
                      · exact HDV.out gg h1
                      · omega
                    go_roundw
                    case rel => exact ⟨j + 1, by omega, by go_num, hfin, hBfin, hEfin, hVfin, hdE, hdV⟩
                    case measure => simp [intOf]; omega
              · have HC := Lib.hid c1
                have c2 : ((x[m].toNat : Int) != 61) = true := by rw [bne, beq_eq_false_iff_ne.2 c1]; rfl
                clear c1
                go_wp2_with fail
                go_roundw
                case rel =>
                  refine ⟨m + 1, by omega, by go_num, fun t ht htm => ?_, by trivial⟩
                  by_cases e : t = m
                  · subst e
                    rw [HXM.out]
                    intro e2
                    exact HC.out (by rw [e2]; rfl)
                  · exact HALL.out t ht (by omega)
                case measure => simp [intOf]; omega
            · obtain rfl : m = x.size := by omega
              have hno : ∀ y ∈ x.data.toList, y ≠ 61 := by
                intro y hy
                obtain ⟨t, ht, rfl⟩ := List.getElem_of_mem hy
                exact HALL.out t ht (by rw [HZX.out] at ht; exact ht)
              have HC := Lib.hid (cutB_none 61 x.data.toList hno)
              clear hno
              obtain ⟨nb, hnb⟩ : ∃ nb : ByteArray, nb = x := ⟨_, rfl⟩
              have hnbd : nb.data.toList = x.data.toList.take x.size := by rw [hnb]; rw [List.take_of_length_le (by rw [HZX.out]; exact Nat.le_refl _)]
              obtain ⟨fn, hfn⟩ : ∃ fn : ByteArray, fn = ⟨(fold nb.data.toList).toArray⟩ := ⟨_, rfl⟩
              have hnbs : nb.size ≤ 4000000 := by rw [← size_list, hnbd, List.length_take]; rw [HZX.out]; omega
              have HFD := Lib.hid (show fn.data.toList = fold (x.data.toList.take x.size) by rw [hfn, hnbd])
              obtain ⟨S, hS⟩ : ∃ S : World → Prop, S = fun W => W.cell? ⟨b2, o2 + j, none⟩ = some (.string x) := ⟨_, rfl⟩
              have step : ∀ W W', S W → Below W.heap.size W W' → S W' := by
                intro W W' h1 hb
                rw [hS] at h1 ⊢
                exact cell_keep h1 hb
              have HLOW := Lib.hid (fun W (h : S W) => show Calls Tryd.prog 48 #[.string (x)] W fun e w' => e = .returned (.string fn) ∧ S w' ∧ Below W.heap.size W w' by rw [← hnb, hfn]; exact (lower_any nb W (by omega)).mono fun _ _ ⟨h1, h2⟩ => ⟨h1, step _ _ h h2, h2⟩)
              have HSS := Lib.hid (fun W => show S W ↔ W.cell? ⟨b2, o2 + j, none⟩ = some (.string x) by rw [hS])
              have HST := Lib.hid step
              have HK0 := Lib.hid (show S wj.drew by rw [hS]; exact HCX.out)
              have HK1 := Lib.hid (show S (wj.alloc zeroD).drew by rw [hS]; exact cell_past (w := wj) HCX.out _)
              clear hnb hfn step hS
              go_wp2_with fail
              clear hcx
              go_region_held3 (fun w' => w'.cell? ⟨b2, o2 + j, none⟩ = some (.string x))
                (first | (with_reducible exact (HSS.out _).1 HK0.out) | (with_reducible exact (HSS.out _).1 HK1.out) | (with_reducible exact (HSS.out _).1 HK5.out) | (with_reducible exact (HSS.out _).1 HK6.out) | (with_reducible exact (HSS.out _).1 HK7.out) | (with_reducible exact (HSS.out _).1 HK9.out))
                (first | (go_at_call 48; with_reducible refine (HLOW.out _ ?_).mono ?_; (first | (with_reducible exact HK0.out) | (with_reducible exact HK1.out)); rintro e w5 ⟨rfl, hk5, hb5⟩; have HK5 := Lib.hid hk5; have HB5 := Lib.hid hb5; have HK6 := Lib.hid (HST.out _ (w5.alloc (.cells #[.string fn, .string ⟨#[]⟩, .bool false] 53)) hk5 ((Below.refl _ w5).alloc (Nat.le_refl _) _)); have HK7 := Lib.hid (HST.out _ (w5.alloc zeroD) hk5 ((Below.refl _ w5).alloc (Nat.le_refl _) _)); clear hk5 hb5; (first | (obtain ⟨y0, y1, y2, y3⟩ := box_cells HB5.out; have HYG := Lib.hid (box_block HB5.out); have HK9 := Lib.hid ((HSS.out _).2 (box_other (a1 := .string fn) (a2 := .string ⟨#[]⟩) (a3 := .bool false) ((HSS.out _).1 HK5.out) hb2lt))) | skip)))
              · obtain ⟨g, hg⟩ : ∃ g, g = w5.heap.size := ⟨_, rfl⟩
                obtain ⟨WX, hWX⟩ : ∃ W, W = w5.alloc (.cells #[.string fn, .string ⟨#[]⟩, .bool false] 53) := ⟨_, rfl⟩
                have hbox : WX.heap[g]? = some (.cells #[.string fn, .string ⟨#[]⟩, .bool false] 53 (0, 0)) := by rw [hWX, hg]; exact heap_alloc_new w5 _
                have hBX : Below wj.heap.size wj WX := by rw [hWX]; exact (((Below.refl _ wj).drew).trans HB5.out).alloc HB5.out.size _
                have hgl : wj.heap.size ≤ g := by rw [hg]; exact HB5.out.size
                rw [← hWX, ← hg]
                clear hWX hg
                have hcX : WX.cell? ⟨b2, o2 + j, none⟩ = some (.string x) := cell_keep HCX.out hBX
                have d0 : WX.cell? ⟨g, 0, none⟩ = some (.string fn) := by rw [cell_of_row _ _ _ _ _ _ hbox]; rfl
                have d1 : WX.cell? ⟨g, 1, none⟩ = some (.string ⟨#[]⟩) := by rw [cell_of_row _ _ _ _ _ _ hbox]; rfl
                have d2 : WX.cell? ⟨g, 2, none⟩ = some (.bool false) := by rw [cell_of_row _ _ _ _ _ _ hbox]; rfl
                have d3 : ∀ i, WX.frozen? ⟨g, i, none⟩ = false := fun i => frozen_of_row _ _ _ _ _ hbox
                have hXs := hBX.size
                have HD := Lib.hid (show dirT x.data.toList = (fold (x.data.toList.take x.size), ((⟨#[]⟩ : ByteArray).data.toList, false)) by
                  unfold dirT
                  rw [HC.out, List.take_of_length_le (by rw [HZX.out]; exact Nat.le_refl _)]
                  rfl)
                have hB6 := (hBX).alloc (show wj.heap.size ≤ (WX).heap.size from (hBX).size) (.cells #[.string fn, .string (⟨#[]⟩), .bool false] 53)
                have hownA := HOWN.out.below hB6
                have HB6 := Lib.hid hB6
                have HNEW := Lib.hid (show ((WX).alloc (.cells #[.string fn, .string (⟨#[]⟩), .bool false] 53)).heap[(WX).heap.size]? = some (.cells #[.string fn, .string (⟨#[]⟩), .bool false] 53 (0, 0)) by
                  have h := heap_alloc_new (WX) (.cells #[.string fn, .string (⟨#[]⟩), .bool false] 53)
                  have e : (WX).heap.size = (WX).heap.size := rfl
                  rwa [e] at h)
                have hs6 : w.heap.size ≤ ((WX).alloc (.cells #[.string fn, .string (⟨#[]⟩), .bool false] 53)).heap.size := Nat.le_trans hBs hB6.size
                have HS6 := Lib.hid hs6
                clear hB6 hs6
                go_wp2_with (at_builtin; refine wpList_appendD rfl _ _ rfl w.heap.size _ _ rfl hownA (WX).heap.size fn (⟨#[]⟩) false rfl HNEW.out hdl2 HS6.out ?_; intro v4 w4 hown4 hgrow4 hway4)
                have hfin : OwnD w4 w.heap.size v4 (dirsOf (V.take k) ++ (E.take (j + 1)).map dirT) := by
                  rw [HJ.out, ← show x.data.toList = E[j] from HX.out, ← List.append_assoc, HD.out, ← show fn.data.toList = fold (x.data.toList.take x.size) from HFD.out]
                  exact hown4
                have hWz := HB6.out.size
                have hBfin : Below w.heap.size w w4 := (hB.trans (HB6.out.mono hBs)).grown hgrow4 HS6.out (fun q e => (World.ownsRow.lt hownA q e).1)
                have hEfin : InS w4 (some ⟨b2, o2, none⟩) E := (HEE.out.below HB6.out).keptD hgrow4 (fun a e => by
                  obtain rfl := Option.some.inj e
                  intro e2
                  exact HDE.out _ e2 rfl)
                have hVfin : InS w4 (some ⟨b', o', none⟩) V := (HVV2.out.below HB6.out).keptD hgrow4 (fun a e => by
                  obtain rfl := Option.some.inj e
                  intro e2
                  exact HDV.out _ e2 rfl)
                have hdE : ∀ a gg, (some ⟨b2, o2, none⟩ : Option Addr) = some a → v4.ownBlock = some gg → gg ≠ a.block := by
                  intro a gg e1 e2
                  obtain rfl := Option.some.inj e1
                  rcases hway4 gg e2 with h1 | h1
                  · exact HDE.out gg h1
                  · show gg ≠ b2
                    omega
                have hdV : ∀ gg, v4.ownBlock = some gg → gg ≠ b' := by
                  intro gg e2
                  rcases hway4 gg e2 with h1 | h1
                  · exact HDV.out gg h1
                  · omega
                go_roundw
                case rel => exact ⟨j + 1, by omega, by go_num, hfin, hBfin, hEfin, hVfin, hdE, hdV⟩
                case measure => simp [intOf]; omega
              · obtain ⟨g, hg⟩ : ∃ g, g = wj.heap.size := ⟨_, rfl⟩
                obtain ⟨WX, hWX⟩ : ∃ W, W = ((w5.setCell ⟨wj.heap.size, 0, none⟩ (.string fn)).setCell ⟨wj.heap.size, 1, none⟩ (.string ⟨#[]⟩)).setCell ⟨wj.heap.size, 2, none⟩ (.bool false) := ⟨_, rfl⟩
                have hbox : WX.heap[g]? = some (.cells #[.string fn, .string ⟨#[]⟩, .bool false] 53 (0, 0)) := by
                  rw [hWX, hg]
                  exact heap_setCell_same _ _ _ _ _ _ (heap_setCell_same _ _ _ _ _ _ (heap_setCell_same _ _ _ _ _ _ HYG.out))
                have hBX : Below wj.heap.size wj WX := by
                  rw [hWX]
                  have h0 : Below wj.heap.size wj w5 := (((Below.refl _ wj).alloc (Nat.le_refl _) zeroD).drew).trans (HB5.out.mono (by show wj.heap.size ≤ (wj.alloc zeroD).heap.size; simp))
                  exact ((h0.setCell (p := ⟨wj.heap.size, 0, none⟩) (Nat.le_refl _) _).setCell (p := ⟨wj.heap.size, 1, none⟩) (Nat.le_refl _) _).setCell (p := ⟨wj.heap.size, 2, none⟩) (Nat.le_refl _) _
                have hgl : wj.heap.size ≤ g := by rw [hg]; exact Nat.le_refl _
                rw [← hWX, ← hg]
                clear hWX hg y0 y1 y2 y3
                have hcX : WX.cell? ⟨b2, o2 + j, none⟩ = some (.string x) := cell_keep HCX.out hBX
                have d0 : WX.cell? ⟨g, 0, none⟩ = some (.string fn) := by rw [cell_of_row _ _ _ _ _ _ hbox]; rfl
                have d1 : WX.cell? ⟨g, 1, none⟩ = some (.string ⟨#[]⟩) := by rw [cell_of_row _ _ _ _ _ _ hbox]; rfl
                have d2 : WX.cell? ⟨g, 2, none⟩ = some (.bool false) := by rw [cell_of_row _ _ _ _ _ _ hbox]; rfl
                have d3 : ∀ i, WX.frozen? ⟨g, i, none⟩ = false := fun i => frozen_of_row _ _ _ _ _ hbox
                have hXs := hBX.size
                have HD := Lib.hid (show dirT x.data.toList = (fold (x.data.toList.take x.size), ((⟨#[]⟩ : ByteArray).data.toList, false)) by
                  unfold dirT
                  rw [HC.out, List.take_of_length_le (by rw [HZX.out]; exact Nat.le_refl _)]
                  rfl)
                have hB6 := (hBX).alloc (show wj.heap.size ≤ (WX).heap.size from (hBX).size) (.cells #[.string fn, .string (⟨#[]⟩), .bool false] 53)
                have hownA := HOWN.out.below hB6
                have HB6 := Lib.hid hB6
                have HNEW := Lib.hid (show ((WX).alloc (.cells #[.string fn, .string (⟨#[]⟩), .bool false] 53)).heap[(WX).heap.size]? = some (.cells #[.string fn, .string (⟨#[]⟩), .bool false] 53 (0, 0)) by
                  have h := heap_alloc_new (WX) (.cells #[.string fn, .string (⟨#[]⟩), .bool false] 53)
                  have e : (WX).heap.size = (WX).heap.size := rfl
                  rwa [e] at h)
                have hs6 : w.heap.size ≤ ((WX).alloc (.cells #[.string fn, .string (⟨#[]⟩), .bool false] 53)).heap.size := Nat.le_trans hBs hB6.size
                have HS6 := Lib.hid hs6
                clear hB6 hs6
                go_wp2_with (at_builtin; refine wpList_appendD rfl _ _ rfl w.heap.size _ _ rfl hownA (WX).heap.size fn (⟨#[]⟩) false rfl HNEW.out hdl2 HS6.out ?_; intro v4 w4 hown4 hgrow4 hway4)
                have hfin : OwnD w4 w.heap.size v4 (dirsOf (V.take k) ++ (E.take (j + 1)).map dirT) := by
                  rw [HJ.out, ← show x.data.toList = E[j] from HX.out, ← List.append_assoc, HD.out, ← show fn.data.toList = fold (x.data.toList.take x.size) from HFD.out]
                  exact hown4
                have hWz := HB6.out.size
                have hBfin : Below w.heap.size w w4 := (hB.trans (HB6.out.mono hBs)).grown hgrow4 HS6.out (fun q e => (World.ownsRow.lt hownA q e).1)
                have hEfin : InS w4 (some ⟨b2, o2, none⟩) E := (HEE.out.below HB6.out).keptD hgrow4 (fun a e => by
                  obtain rfl := Option.some.inj e
                  intro e2
                  exact HDE.out _ e2 rfl)
                have hVfin : InS w4 (some ⟨b', o', none⟩) V := (HVV2.out.below HB6.out).keptD hgrow4 (fun a e => by
                  obtain rfl := Option.some.inj e
                  intro e2
                  exact HDV.out _ e2 rfl)
                have hdE : ∀ a gg, (some ⟨b2, o2, none⟩ : Option Addr) = some a → v4.ownBlock = some gg → gg ≠ a.block := by
                  intro a gg e1 e2
                  obtain rfl := Option.some.inj e1
                  rcases hway4 gg e2 with h1 | h1
                  · exact HDE.out gg h1
                  · show gg ≠ b2
                    omega
                have hdV : ∀ gg, v4.ownBlock = some gg → gg ≠ b' := by
                  intro gg e2
                  rcases hway4 gg e2 with h1 | h1
                  · exact HDV.out gg h1
                  · omega
                go_roundw
                case rel => exact ⟨j + 1, by omega, by go_num, hfin, hBfin, hEfin, hVfin, hdE, hdV⟩
                case measure => simp [intOf]; omega
        · obtain rfl : j = E.length := by omega
          rw [List.take_length] at hown
          have HLE := Lib.hid (show OwnD wj w.heap.size u3 (dirsOf (V.take (k + 1))) by
            rw [HVV.out, ← show v.data.toList = V[k] from HVE.out, ← show E = listOf v.data.toList from HE.out]; exact hown)
          have HDV2 := Lib.hid hdV
          go_wp2_with fail
          go_roundw
          case rel => exact ⟨k + 1, by omega, by go_num, HLE.out, hB, hV, fun a gg e1 e2 => by obtain rfl := Option.some.inj e1; exact HDV2.out gg e2⟩
          case measure => simp [intOf]; omega
    · obtain rfl : k = V.length := by omega
      rw [List.take_length] at hown
      go_wp2_with fail
      go_ret
      exact ⟨_, rfl, hown, hb⟩
end Go.Proofs.YtnengooipemffaaDoor
