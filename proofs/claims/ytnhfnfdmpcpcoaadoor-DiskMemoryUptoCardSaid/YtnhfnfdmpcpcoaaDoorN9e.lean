/-
  Chapter 9, texts merged: LeftD, NewD, DoD, SameTexts, Help9, Begin9, Start9.
-/
import Derived.Test.YtnhfnfdmpcpcoaaDoorN9d
import Derived.Test.YtnhfnfdmpcpcoaaDoorN9b
import Derived.Test.YtnhfnfdmpcpcoaaDoorN9c
import Derived.Test.YtnhfnfdmpcpcoaaDoorShelf
import Derived.Test.YtnhfnfdmpcpcoaaDoorN9a
import Derived.Deep.LoopGhost
import Derived.Deep.RegionHeld3
import Derived.Laws.Cover1
import Derived.Sort.Walk0
import Derived.Laws.ResultCell

/-
  Left: what a loss of power leaves.
-/
namespace Go.Proofs.YtnhfnfdmpcpcoaaDoor
open Go.RowKit Go.Maps

/-- the names behind the first changes -/
def stN (S : DiskC) (n : Int) (i : Nat) : NM := (S.pend.take (min i n.toNat)).foldl (fun M c => applyC c M) S.safe
theorem stN_zero (S : DiskC) (n : Int) : stN S n 0 = S.safe := by unfold stN; simp
theorem stN_step (S : DiskC) (n : Int) (i : Nat) (c : Chg) (hc : S.pend[i]? = some c) (h : (i : Int) < n) : stN S n (i + 1) = applyC c (stN S n i) := by
  unfold stN
  have e1 : min (i + 1) n.toNat = i + 1 := by omega
  have e2 : min i n.toNat = i := by omega
  obtain ⟨hi, e⟩ := List.getElem?_eq_some_iff.1 hc
  rw [e1, e2, List.take_succ_eq_append_getElem hi, e, List.foldl_append]
  rfl
theorem stN_skip (S : DiskC) (n : Int) (i : Nat) (h : ¬ (i : Int) < n) : stN S n (i + 1) = stN S n i := by
  unfold stN
  have e1 : min (i + 1) n.toNat = n.toNat := by omega
  have e2 : min i n.toNat = n.toNat := by omega
  rw [e1, e2]
theorem stN_end (S : DiskC) (n : Int) : mapN (noF S.files) (stN S n S.pend.length) = leftNP (absD S) n := by
  unfold stN leftNP
  have e : S.pend.take (min S.pend.length n.toNat) = S.pend.take n.toNat := by
    rw [List.take_eq_take_iff]; omega
  rw [e]
  unfold absD
  simp only
  rw [← List.map_take, fold_map]
theorem stN_length (S : DiskC) (n : Int) (i : Nat) : (stN S n i).length ≤ S.safe.length + S.pend.length := by
  unfold stN
  refine Nat.le_trans (fold_length _ _) ?_
  rw [List.length_take]
  omega
theorem fold_file (S : DiskC) : ∀ (C : List Chg) (M : NM), (∀ x ∈ M, HasFile S x.2) → (∀ c ∈ C, ChgFile S c) → ∀ x ∈ C.foldl (fun M c => applyC c M) M, HasFile S x.2
  | [], _, h, _ => h
  | c :: C, M, h, hc => fold_file S C _ (fun x hx => by
      have h1 := hc c (List.mem_cons_self ..)
      cases c with
      | put k f =>
        rcases insN_mem k f x M hx with e | e
        · rw [e]; exact h1
        · exact h x e
      | ren a k f =>
        rcases insN_mem k f x _ hx with e | e
        · rw [e]; exact h1
        · exact h x (delN_mem e).1
      | del k => exact h x (delN_mem hx).1) fun d hd => hc d (List.mem_cons_of_mem _ hd)
theorem good_len {l : List UInt8} (h : badN l = false) : l.length ≤ 64 := by
  unfold badN goodN at h
  simp at h
  exact h.1.2
theorem left_at {S : DiskC} {n : Int} {K : List Int} {M : NM} (hM : mapN (noF S.files) M = leftNP (absD S) n) {k : Nat} (hk : k < M.length) {no : Nat} {f : FileC} (hap : ApartF S.files) (hf : S.files[no]? = some f) (hg : f.blk = M[k].2) :
    (leftP (absD S) n K)[k]? = some (M[k].1, f.data.take (f.firm + moreP K no (f.data.length - f.firm))) := by
  unfold leftP
  rw [← hM]
  unfold mapN
  rw [List.getElem?_map, List.getElem?_map, List.getElem?_eq_getElem hk]
  simp only [Option.map_some, Option.some.injEq, Prod.mk.injEq, true_and]
  have e : noF S.files M[k].2 = no := by rw [← hg]; exact noF_at _ _ _ hap hf
  rw [e]
  unfold leftDP
  rw [(datP_of hf).1, (datP_of hf).2]
theorem take_snoc_get {α : Type} {L : List α} {k : Nat} {x : α} (h : L[k]? = some x) : L.take (k + 1) = L.take k ++ [x] := by
  obtain ⟨hi, e⟩ := List.getElem?_eq_some_iff.1 h
  rw [List.take_succ_eq_append_getElem hi, e]
theorem In8.take {w : World} {p : Option Addr} {l : List UInt8} (h : In8 w p l) (m : Nat) : In8 w p (l.take m) := by
  have e : l = l.take m ++ l.drop m := (List.take_append_drop m l).symm
  rw [e] at h
  exact h.fore
theorem stN_file {w : World} {P : Nat → Prop} {dd : Nat} {S : DiskC} (h : DiskAt w P dd S) (n : Int) (i : Nat) : ∀ x ∈ stN S n i, HasFile S x.2 :=
  fold_file S _ _ h.safeF fun c hc => h.pendF c (List.mem_of_mem_take hc)

set_option maxRecDepth 100000 in
set_option maxHeartbeats 4000000 in
theorem left_p {w : World} {P : Nat → Prop} {dd : Nat} {A : Pl} (h : DiskP w P dd A) (n : Int) (K : List Int) (kp : Option Addr) (kc : Nat) (hK : InV w kp (K.map (Value.int .i64))) (hinv : Inv A) (hpl : A.pend.length ≤ 1000000) (hsl : A.safe.length ≤ 4000000000000) (hdat : ∀ f ∈ A.files, f.1.length ≤ 140737488351232) :
    Calls Tryd.prog 19 #[.pointer (some ⟨dd, 0, none⟩), .agg #[.int .i64 n, .slice kp K.length kc]] w fun e w' => ∃ v, e = .returned v ∧ OwnFs w' w.heap.size v (leftP A n K) ∧ Below w.heap.size w w' := by
  obtain ⟨S, h, rfl⟩ := h
  rw [(abs_len S).2.1] at hpl
  rw [(abs_len S).2.2.2] at hsl
  obtain ⟨wa, hwa⟩ : ∃ W0, W0 = w.alloc (.cells #[.int .i64 n, .slice kp K.length kc] 29) := ⟨_, rfl⟩
  have hba : Below w.heap.size w wa := by rw [hwa]; exact (Below.refl _ w).alloc (Nat.le_refl _) _
  have hfa : wa.heap[w.heap.size]? = some (.cells #[.int .i64 n, .slice kp K.length kc] 29 (0, 0)) := by rw [hwa]; exact heap_alloc_new w _
  have ha := h.below hba
  have c1 : wa.cell? ⟨dd, 1, none⟩ = some (.map (some S.bs)) := ha.cell 1
  have hcl := cloneF_any ha.safe
  have hsza : wa.heap.size = w.heap.size + 1 := by rw [hwa]; simp
  have HA := Lib.hid (And.intro hba (And.intro hfa hsza))
  rw [hwa] at c1 hcl
  have HWA := Lib.hid hwa
  clear hwa hba hfa ha hsza
  go_enter Tryd.func19, Tryd.ntmps19
  go_wp2_with fail
  refine hcl.mono ?_
  rw [← HWA.out]
  rintro e w1 ⟨rfl, hm1, hb1⟩
  clear hcl
  obtain ⟨hba, hfa, hsza⟩ := HA.out
  have hB1 : Below w.heap.size w w1 := hba.trans (hb1.mono (by omega))
  have h1 := h.below hB1
  have c2 : w1.cell? ⟨dd, 2, none⟩ = some S.pv := h1.cell 2
  obtain ⟨pp, pc, hpv⟩ := h1.pvForm
  rw [hpv] at c2
  have hf1 : w1.heap[w.heap.size]? = some (.cells #[.int .i64 n, .slice kp K.length kc] 29 (0, 0)) := (hb1.block _ (lt_of_heap hfa)).trans hfa
  have hs1 : w.heap.size + 2 ≤ w1.heap.size := by have := hm1.lt; omega
  have HS1 := Lib.hid hs1
  have HPV := Lib.hid hpv
  have HSZ := Lib.hid hsza
  clear hba hfa hsza hpv hs1
  go_wp2_with fail
  go_loopw [23] (fun i wr => ∃ k : Nat, k ≤ S.pend.length ∧ i = .int .i64 k ∧ OwnN wr wa.heap.size (stN S n k) ∧ Below w.heap.size w wr ∧ wr.heap[w.heap.size]? = some (.cells #[.int .i64 n, .slice kp K.length kc] 29 (0, 0))) (fun i _ => S.pend.length - (intOf i).toNat)
  case atStart => exact ⟨0, Nat.zero_le _, rfl, by rw [stN_zero]; exact hm1, hB1, hf1⟩
  case round =>
    obtain ⟨k, hk, rfl, hm, hb, hf⟩ := hrel
    have hr := h.below hb
    have cf : wr.cell? ⟨w.heap.size, 0, none⟩ = some (.int .i64 n) := by rw [cell_of_row _ _ _ _ _ _ hf]; rfl
    have HF := Lib.hid (And.intro hf hm1)
    clear hf1 hf hm1 c2
    by_cases hlt : k < S.pend.length
    · have hlen : S.pvals.length = S.pend.length := by have := hr.row.1; omega
      obtain ⟨q0, c0, hq0, _, _, hin, _⟩ := owns_shape hr.row
      rw [HPV.out] at hq0
      injection hq0 with hq0 _ hq2
      subst hq0
      subst hq2
      obtain ⟨b, o, rfl, hc⟩ := hin.at (k := k) (by omega)
      have hck := hc k (by omega)
      obtain ⟨hch, hcf⟩ := hr.chg k S.pvals[k] S.pend[k] (List.getElem?_eq_getElem (by omega)) (List.getElem?_eq_getElem hlt)
      have hget : S.pend[k]? = some S.pend[k] := List.getElem?_eq_getElem hlt
      generalize S.pend[k] = cc at hch hcf hget
      generalize S.pvals[k] = vv at hck hch
      obtain ⟨g, cap, hv, hcall⟩ := chg_call hm hch (by have := stN_length S n k; unfold maxLen; omega)
      subst hv
      have hent := chg_enter hch
      have HG := Lib.hid hget
      clear hc hin hch hcf hget
      by_cases hn : (k : Int) < n
      · have HN := Lib.hid hn
        go_wp2_with fail
        refine hcall.mono ?_
        rintro e w2 ⟨rfl, hm2, hg2, hsz2⟩
        clear hcall hent
        go_wp2_with fail
        have hba := HA.out.2.2
        have hgl := hb.grown hg2 (by have := hm.lt; omega) (fun j e => by injection e with e; omega)
        go_roundw
        case rel => exact ⟨k + 1, by omega, by go_num, by rw [stN_step S n k cc HG.out HN.out]; exact hm2, hgl, (hg2.block _ (lt_of_heap HF.out.1) (fun e => by injection e with e; omega)).trans HF.out.1⟩
        case measure => simp [intOf]; omega
      · have HN := Lib.hid hn
        have hn2 : decide ((k : Int) < n) = false := decide_eq_false hn
        go_wp2_with fail
        go_roundw
        case rel => exact ⟨k + 1, by omega, by go_num, by rw [stN_skip S n k HN.out]; exact hm, hb, HF.out.1⟩
        case measure => simp [intOf]; omega
    · obtain rfl : k = S.pend.length := by omega
      have hML := stN_length S n S.pend.length
      have hMN := stN_end S n
      have hMF := stN_file hr n S.pend.length
      have hkeys := keysF_any (some wa.heap.size) wr
      have hso := sortedF_any wr hm (by omega)
      generalize stN S n S.pend.length = M at hm hML hMN hMF hso
      have HMN := Lib.hid (And.intro hMN hMF)
      clear hMN hMF
      go_wp2_with fail
      refine hkeys.mono ?_
      rintro e w2 ⟨rfl, rfl⟩
      clear hkeys
      go_wp2_with fail
      refine hso.mono ?_
      rintro e w3 ⟨v, rfl, hown, hb3⟩
      clear hso
      have hB3 : Below w.heap.size w w3 := hb.trans (hb3.mono hb.size)
      have hm3 := hm.below hb3
      have hf3 := (hb3.block _ (lt_of_heap HF.out.1)).trans HF.out.1
      obtain ⟨pv, cv, rfl, _, _, hin3, _⟩ := hown.shape (n := M.length) (by simp)
      have HM := Lib.hid (And.intro hB3 (And.intro hm3 (And.intro hf3 hin3)))
      clear hm hown hb3 hm3 hf3 hin3 hB3 hb hr cf c1
      obtain ⟨wo, hwo⟩ : ∃ x, x = wr := ⟨_, rfl⟩
      subst hwo
      go_wp2_with fail
      go_loopw [8, 40] (fun vo i wr => ∃ k : Nat, k ≤ M.length ∧ i = .int .i64 k ∧ OwnFs wr w3.heap.size vo ((leftP (absD S) n K).take k) ∧ Below w3.heap.size w3 wr) (fun _ i _ => M.length - (intOf i).toNat)
      case atStart => exact ⟨0, Nat.zero_le _, rfl, by rw [List.take_zero]; exact OwnFs.nil _ _, Below.refl _ _⟩
      case round =>
        obtain ⟨k, hk, rfl, hown, hb⟩ := hrel
        by_cases hlt : k < M.length
        · obtain ⟨hB3, hm3, hf3, hin3⟩ := HM.out
          have hbr := hB3.trans (hb.mono hB3.size)
          have hr := h.below hbr
          have hmr := hm3.below hb
          have hfr := (hb.block _ (lt_of_heap hf3)).trans hf3
          obtain ⟨b, o, rfl, x, hcx, hx⟩ := (hin3.below hb).at (k := k) (by simpa using hlt)
          rw [List.getElem_map] at hx
          have hlk : lookN M x.data.toList = some M[k].2 := by rw [hx]; exact lookN_of_mem hm3.1 (List.getElem_mem hlt)
          have hxs : x.size ≤ maxLen := by
            have hmem : (M[k].1, noF S.files M[k].2) ∈ leftNP (absD S) n := by
              rw [← HMN.out.1]
              exact List.mem_map.2 ⟨M[k], List.getElem_mem hlt, rfl⟩
            have := good_len (leftN_good hinv n _ hmem)
            simp only at this
            rw [← hx, size_list] at this
            unfold maxLen
            omega
          have hrun := run_lookF hmr x hxs
          rw [hlk] at hrun
          unfold fileV at hrun
          obtain ⟨f, hfm, hfg⟩ := HMN.out.2 M[k] (List.getElem_mem hlt)
          obtain ⟨no, hno, eno⟩ := List.getElem_of_mem hfm
          have hfi : S.files[no]? = some f := by rw [List.getElem?_eq_getElem hno, eno]
          have hat := left_at (K := K) HMN.out.1 hlt h.apart hfi hfg
          obtain ⟨b1, b2, b3, b4, b5⟩ := hr.files no f hfi
          obtain ⟨qf, cq, hval, hc1, hc2, hinf⟩ := b2.in8n rfl
          have hlen : f.data.length ≤ 140737488351232 := hdat (f.data, f.firm) (List.mem_map.2 ⟨f, hfm, rfl⟩)
          rw [hfg] at b1
          have d0 : wr.cell? ⟨M[k].2, 0, none⟩ = some (.int .i64 no) := by rw [cell_of_row _ _ _ _ _ _ b1]; rfl
          have d1 : wr.cell? ⟨M[k].2, 1, none⟩ = some (.slice qf f.data.length cq) := by rw [cell_of_row _ _ _ _ _ _ b1, ← hval]; rfl
          have d2 : wr.cell? ⟨M[k].2, 2, none⟩ = some (.int .i64 f.firm) := by rw [cell_of_row _ _ _ _ _ _ b1]; rfl
          have e1 : wr.cell? ⟨w.heap.size, 1, none⟩ = some (.slice kp K.length kc) := by rw [cell_of_row _ _ _ _ _ _ hfr]; rfl
          obtain ⟨gb, hgb⟩ : ∃ gb, gb = M[k].2 := ⟨_, rfl⟩
          rw [← hgb] at hrun d0 d1 d2
          have HAT := Lib.hid hat
          have HX := Lib.hid hx
          have HIN := Lib.hid hinf
          have hqn : qf = none → cq = 0 := fun e => by
            subst e
            rcases b2.2 with ⟨e, _⟩ | ⟨g', cap, cur, e, _⟩
            · rw [hval] at e; injection e
            · rw [hval] at e; injection e with e; cases e
          have hle : f.firm ≤ f.data.length := b5
          clear hat hx hinf hfm hno eno hfi hr hmr hfr b1 b2 b3 b4 b5 hval hlk hgb hfg hB3 hm3 hf3 hin3
          by_cases hin : no < K.length
          · obtain ⟨kb, ko, rfl, hkc⟩ := hK.at (k := no) (by simpa using hin)
            have hkn := hkc no (by simpa using hin)
            rw [List.getElem_map] at hkn
            have hkn := (hbr.cell (World.block_lt_of_cell? w _ hkn)).trans hkn
            obtain ⟨z, hz⟩ : ∃ z, z = K[no] := ⟨_, rfl⟩
            rw [← hz] at hkn
            obtain ⟨nn, hnn⟩ : ∃ nn, nn = f.firm + moreP K no (f.data.length - f.firm) := ⟨_, rfl⟩
            have hmore : moreP K no (f.data.length - f.firm) = (min z ((f.data.length - f.firm : Nat) : Int)).toNat := by unfold moreP; rw [List.getElem?_eq_getElem hin, ← hz]
            have hnl : nn ≤ f.data.length := by omega
            have HWR := Lib.hid (show (f.firm : Int) + max 0 (min z ((f.data.length : Int) - (f.firm : Int))) = (nn : Int) by omega)
            have HNN := Lib.hid hnn
            clear hkc hz hnn hmore
            go_wp2_with fail
            go_quiet (fail)
            go_wp2_with fail
            go_quiet (fail)
            rename_i nq1
            rw [HWR.out]
            have hbd : Below wr.heap.size wr (wr.drewN (nq1 + nq)) := bdrewN (Below.refl _ wr) _
            have hcl := cloneB_any (f.data.take nn) qf nn cq (by rw [List.length_take]; omega) (by omega) hqn (wr.drewN (nq1 + nq)) ((HIN.out.below hbd).take nn)
            have HBD := Lib.hid hbd
            have HOW := Lib.hid hown
            clear hbd hown
            go_wp2_with fail
            refine hcl.mono ?_
            rintro e w4 ⟨v4, rfl, hown4, hb4⟩
            clear hcl
            have hb34 : Below w3.heap.size w3 w4 := hb.trans ((HBD.out.trans (hb4.mono HBD.out.size)).mono hb.size)
            have hfs4 := (HOW.out.below HBD.out).below hb4
            have hown4' : Own8 w4 w3.heap.size v4 (f.data.take nn) := hown4.mono (Nat.le_trans hb.size HBD.out.size)
            obtain ⟨p4, c4, rfl, _, _, _⟩ := hown4.in8n (n := nn) (by rw [List.length_take]; omega)
            have hfs5 := hfs4.below ((Below.refl _ w4).alloc (Nat.le_refl _) (.cells #[.string x, .slice p4 nn c4] 45))
            have hown5 := hown4'.alloc (.cells #[.string x, .slice p4 nn c4] 45)
            have hine := InE.one w4 x (.slice p4 nn c4) 45
            have HB4 := Lib.hid hb34
            clear hown4 hown4' hb4 hfs4 hb34
            go_wp2_with (
              at_builtin
              refine wpList_appendFs rfl _ _ rfl w3.heap.size _ _ rfl hfs5 w4.heap.size _ x.data.toList (.slice p4 nn c4) (f.data.take nn) rfl hine hown5 (by rw [List.length_take]; omega) (by have := HB4.out.size; simp; omega) ?_
              intro v6 w6 hfs6 hg6
              have hb6 := hfs5.grown (HB4.out.alloc HB4.out.size _) (by have := HB4.out.size; simp; omega) hg6
              clear hg6)
            go_roundw
            case rel => exact ⟨k + 1, by omega, by go_num, by rw [take_snoc_get HAT.out, ← HX.out, ← HNN.out]; exact hfs6, hb6⟩
            case measure => simp [intOf]; omega
          · obtain ⟨nn, hnn⟩ : ∃ nn, nn = f.firm + moreP K no (f.data.length - f.firm) := ⟨_, rfl⟩
            have hmore : moreP K no (f.data.length - f.firm) = 0 := by unfold moreP; rw [List.getElem?_eq_none (by omega)]
            have hnf : nn = f.firm := by omega
            have hnl : nn ≤ f.data.length := by omega
            have HNN := Lib.hid hnn
            rw [← hnf] at d2
            clear hnn hmore hnf
            go_wp2_with fail
            go_quiet (fail)
            have hbd : Below wr.heap.size wr (wr.drewN nq) := bdrewN (Below.refl _ wr) _
            have hcl := cloneB_any (f.data.take nn) qf nn cq (by rw [List.length_take]; omega) (by omega) hqn (wr.drewN nq) ((HIN.out.below hbd).take nn)
            have HBD := Lib.hid hbd
            have HOW := Lib.hid hown
            clear hbd hown
            go_wp2_with fail
            refine hcl.mono ?_
            rintro e w4 ⟨v4, rfl, hown4, hb4⟩
            clear hcl
            have hb34 : Below w3.heap.size w3 w4 := hb.trans ((HBD.out.trans (hb4.mono HBD.out.size)).mono hb.size)
            have hfs4 := (HOW.out.below HBD.out).below hb4
            have hown4' : Own8 w4 w3.heap.size v4 (f.data.take nn) := hown4.mono (Nat.le_trans hb.size HBD.out.size)
            obtain ⟨p4, c4, rfl, _, _, _⟩ := hown4.in8n (n := nn) (by rw [List.length_take]; omega)
            have hfs5 := hfs4.below ((Below.refl _ w4).alloc (Nat.le_refl _) (.cells #[.string x, .slice p4 nn c4] 45))
            have hown5 := hown4'.alloc (.cells #[.string x, .slice p4 nn c4] 45)
            have hine := InE.one w4 x (.slice p4 nn c4) 45
            have HB4 := Lib.hid hb34
            clear hown4 hown4' hb4 hfs4 hb34
            go_wp2_with (
              at_builtin
              refine wpList_appendFs rfl _ _ rfl w3.heap.size _ _ rfl hfs5 w4.heap.size _ x.data.toList (.slice p4 nn c4) (f.data.take nn) rfl hine hown5 (by rw [List.length_take]; omega) (by have := HB4.out.size; simp; omega) ?_
              intro v6 w6 hfs6 hg6
              have hb6 := hfs5.grown (HB4.out.alloc HB4.out.size _) (by have := HB4.out.size; simp; omega) hg6
              clear hg6)
            go_roundw
            case rel => exact ⟨k + 1, by omega, by go_num, by rw [take_snoc_get HAT.out, ← HX.out, ← HNN.out]; exact hfs6, hb6⟩
            case measure => simp [intOf]; omega
        · obtain rfl : k = M.length := by omega
          go_wp2_with fail
          go_ret
          obtain ⟨hB3, hm3, hf3, hin3⟩ := HM.out
          refine ⟨_, rfl, ?_, hB3.trans (hb.mono hB3.size)⟩
          have e : (leftP (absD S) n K).length = M.length := by
            unfold leftP
            rw [← HMN.out.1]
            unfold mapN
            simp
          rw [← e, List.take_length] at hown
          exact hown.mono hB3.size
end Go.Proofs.YtnhfnfdmpcpcoaaDoor

/-
  New: a disk that holds files.
-/
namespace Go.Proofs.YtnhfnfdmpcpcoaaDoor
open Go.RowKit Go.Maps

theorem cloneI_any {w : World} {q : Option Addr} {Z : List Int} {m d : Nat} (hm : Z.length = m) (hl : m ≤ 17592186043904) (h : InV w q (Z.map (Value.int .i64))) :
    Calls Tryd.prog 57 #[.slice q m d] w fun e w' => ∃ v, e = .returned v ∧ w'.ownsRow w.heap.size 3 1 v Z.length (Z.map (Value.int .i64)) ∧ Below w.heap.size w w' := by
  subst hm
  cases q with
  | none =>
    have hz : Z = [] := by
      by_cases h0 : 0 < Z.length
      · obtain ⟨b, o, e, _⟩ := h (by simpa using h0); cases e
      · exact List.eq_nil_of_length_eq_zero (by omega)
    subst hz
    refine (Tryd.slices_Clone_int_nil _ d w).mono ?_
    rintro e w' ⟨rfl, rfl⟩
    exact ⟨_, rfl, World.ownsRow_nil _ _ _ _, Below.refl _ _⟩
  | some a =>
    cases Z with
    | nil =>
      refine (Tryd.slices_Clone_int_zero a d w).mono ?_
      rintro e w' ⟨v, rfl, h1, _, h2⟩
      exact ⟨_, rfl, h1, h2⟩
    | cons z r =>
      obtain ⟨b, o, e, hc⟩ := h (by simp)
      injection e with e
      subst e
      refine (Tryd.slices_Clone_int b o (z :: r).length d (z :: r) w (Nat.le_refl _) (by omega) (fun j hj => by
        rw [hc j (by simpa using hj), List.getElem_map, List.getD_eq_getElem?_getD, List.getElem?_eq_getElem hj]; rfl)).mono ?_
      rintro e w' ⟨v, rfl, h1, _, h2⟩
      rw [List.take_length] at h1
      exact ⟨_, rfl, h1, h2⟩

theorem lessN (a b : ByteArray) : Op.bytesLess a.toList b.toList = decide (a.data.toList < b.data.toList) := by
  rw [bytesLess_eq, Lib.toList_data, Lib.toList_data]
theorem rowKeep {w w' : World} {base e size n : Nat} {v : Value} {xs : List Value} (h : w.ownsRow base e size v n xs) (hk : ∀ g cur, v.ownBlock = some g → w.heap[g]? = some (.cells cur e (0, 0)) → w'.heap[g]? = w.heap[g]?) : w'.ownsRow base e size v n xs := by
  refine ⟨h.1, ?_⟩
  rcases h.2 with h0 | ⟨g, cap, cur, e, c1, c2, r⟩
  · exact .inl h0
  · exact .inr ⟨g, cap, cur, e, c1, (hk g cur (by rw [e]; rfl) c2).trans c2, r⟩
/-- the name ahead of number k -/
def lastN (F : List FT) : Nat → BS
  | 0 => []
  | k + 1 => (F[k]?.map (·.1)).getD []

set_option maxRecDepth 100000 in
set_option maxHeartbeats 4000000 in
theorem new_pS (F : List FT) (p : Option Addr) (n c : Nat) (hn : F.length = n) (room : Int) (Z : List Int) (q : Option Addr) (m d : Nat) (hm : Z.length = m) (power : Int) (w : World) (hF : InFs w p F) (hZ : InV w q (Z.map (Value.int .i64))) (hFl : F.length ≤ 4000000000000) (hFn : ∀ f ∈ F, f.1.length ≤ 140737488351232 ∧ f.2.length ≤ 140737488351232) (hZl : Z.length ≤ 4000000000000) :
    Calls Tryd.prog 34 #[.slice p n c, .int .i64 room, .slice q m d, .int .i64 power] w fun e w' =>
      (newE F room ≠ 0 ∧ e = .returned (.tuple #[.pointer none, .int .i64 (newE F room)]) ∨ newE F room = 0 ∧ ∃ dd P, e = .returned (.tuple #[.pointer (some ⟨dd, 0, none⟩), .int .i64 0]) ∧ (∃ S, DiskAt w' P dd S ∧ absD S = newP F room Z power ∧ ∀ a, S.fp = some a → w.heap.size ≤ a.block) ∧ ∀ g, P g → w.heap.size ≤ g) ∧ Below w.heap.size w w' := by
  subst hn
  subst hm
  by_cases hroom : room < 0 ∨ 1073741824 < room
  · have HE := Lib.hid (show newE F room = 131 by unfold newE; rw [if_pos hroom])
    by_cases h0 : room < 0
    · have h1 : decide (room < 0) = true := decide_eq_true h0
      clear hroom
      go_enter Tryd.func34, Tryd.ntmps34
      go_wp2_with fail
      go_ret2
      exact ⟨.inl ⟨by rw [HE.out]; decide, by rw [HE.out]; rfl⟩, Below.refl _ _⟩
    · have h1 : decide (room < 0) = false := decide_eq_false h0
      have h2 : decide (1073741824 < room) = true := decide_eq_true (by omega)
      clear hroom
      go_enter Tryd.func34, Tryd.ntmps34
      go_wp2_with fail
      go_ret2
      exact ⟨.inl ⟨by rw [HE.out]; decide, by rw [HE.out]; rfl⟩, Below.refl _ _⟩
  · have hmk : ∀ W : World, (Instr.makeMap 76 none).run Tryd.prog W = .ok (.map (some W.heap.size)) (W.alloc (.map #[] 0)) := fun _ => rfl
    have h1 : decide (room < 0) = false := decide_eq_false (by omega)
    have h2 : decide (1073741824 < room) = false := decide_eq_false (by omega)
    have HE0 := Lib.hid (show okF F → newE F room = 0 from fun h => by unfold newE; rw [if_neg hroom, if_pos h])
    have HE1 := Lib.hid (show ¬ okF F → newE F room = 95 from fun h => by unfold newE; rw [if_neg hroom, if_neg h])
    have hr0 : 0 ≤ room := by omega
    obtain ⟨wa, hwa⟩ : ∃ W0, W0 = w.alloc (.map #[] 0) := ⟨_, rfl⟩
    have hba : Below w.heap.size w wa := by rw [hwa]; exact (Below.refl _ w).alloc (Nat.le_refl _) _
    have hmade : OwnN wa w.heap.size [] := by rw [hwa]; exact OwnN.made w
    have hsz : wa.heap.size = w.heap.size + 1 := by rw [hwa]; simp
    have hcl := cloneI_any (d := d) rfl (by omega) (hZ.below hba)
    rw [hwa] at hcl
    have HWA := Lib.hid (And.intro hwa (And.intro hba (And.intro hmade hsz)))
    clear hwa hba hmade hsz hroom
    go_enter Tryd.func34, Tryd.ntmps34
    go_wp2_with fail
    refine hcl.mono ?_
    rw [← HWA.out.1]
    rintro e w1 ⟨fv, rfl, hrow, hb1⟩
    clear hcl
    obtain ⟨fp, fc, hfv, _, _, _, _⟩ := owns_shape hrow
    rw [hfv]
    obtain ⟨hwa, hba, hmade, hsz⟩ := HWA.out
    obtain ⟨w2, hw2⟩ : ∃ W0, W0 = w1.alloc (.cells #[.map (some w.heap.size), .map none, .slice none 0 0, .int .i64 0, .int .i64 room, .slice fp Z.length fc, .int .i64 power, .int .i64 0] 79) := ⟨_, rfl⟩
    have hb2 : Below w1.heap.size w1 w2 := by rw [hw2]; exact (Below.refl _ w1).alloc (Nat.le_refl _) _
    have hB2 : Below w.heap.size w w2 := hba.trans (hb1.trans (hb2.mono hb1.size) |>.mono (by omega))
    have hsz2 : w2.heap.size = w1.heap.size + 1 := by rw [hw2]; simp
    have hszl : w.heap.size < w1.heap.size := by have := hb1.size; omega
    have hrow2 : w2.ownsRow w.heap.size 3 1 fv Z.length (Z.map (Value.int .i64)) := ownsRow_below (ownsRow_mono hrow (by omega)) hb2
    have hmap2 : OwnN w2 w.heap.size [] := (hmade.below hb1).below hb2
    have hdd2 : w2.heap[w1.heap.size]? = some (.cells #[.map (some w.heap.size), .map none, .slice none 0 0, .int .i64 0, .int .i64 room, .slice fp Z.length fc, .int .i64 power, .int .i64 0] 79 (0, 0)) := by rw [hw2]; exact heap_alloc_new w1 _
    have hna : NewAt w2 F 0 w1.heap.size w.heap.size room fv power (fun g => w.heap.size ≤ g ∧ fv.ownBlock ≠ some g) [] := by
      refine ⟨by rw [hfv]; exact hdd2, by unfold zipN; simpa using hmap2, rfl, Nat.zero_le _, fun i f hf => by simp at hf, List.Pairwise.nil, ⟨fun f hf => by simp at hf, by simp⟩⟩
    have hflt : ∀ g, fv.ownBlock = some g → g < w1.heap.size := fun g hg => (World.ownsRow.lt hrow g hg).2
    have HW2 := Lib.hid hw2
    have HI := Lib.hid (And.intro hna (And.intro hrow2 (And.intro hB2 hflt)))
    have HFV := Lib.hid hfv
    have HSZ := Lib.hid (And.intro hsz2 hszl)
    clear hwa hba hmade hsz hb1 hb2 hsz2 hrow hrow2 hmap2 hdd2 hna hflt hw2 hfv hB2 hszl
    go_wp2_with fail
    rw [← HW2.out]
    go_loopw [11, 29] (fun lv i wr => ∃ (k : Nat) (G : List FileC) (lb : ByteArray), k ≤ F.length ∧ i = .int .i64 k ∧ lv = .string lb ∧ lb.data.toList = lastN F k ∧ NewAt wr F k w1.heap.size w.heap.size room fv power (fun g => w.heap.size ≤ g ∧ fv.ownBlock ≠ some g) G ∧ wr.ownsRow w.heap.size 3 1 fv Z.length (Z.map (Value.int .i64)) ∧ Below w.heap.size w wr ∧ w2.heap.size ≤ wr.heap.size) (fun _ i _ => F.length - (intOf i).toNat)
    case atStart =>
      obtain ⟨h1, h2, h3, _⟩ := HI.out
      exact ⟨0, [], ⟨#[]⟩, Nat.zero_le _, rfl, rfl, rfl, h1, h2, h3, Nat.le_refl _⟩
    case round =>
      obtain ⟨k, G, lb, hk, rfl, rfl, hlb, hna, hrow, hb, hsw⟩ := hrel
      have HK := Lib.hid (And.intro hna (And.intro hrow (And.intro hb hsw)))
      have HLB := Lib.hid hlb
      clear hlb hna hrow hsw
      by_cases hlt : k < F.length
      · obtain ⟨b, o, rfl, x, q0, c0, hcx, hcd, hx, hqc, hdl, hind⟩ := (hF.below hb).at hlt
        obtain ⟨l, hl⟩ : ∃ l, l = F[k].2 := ⟨_, rfl⟩
        rw [← hl] at hcd hdl hind
        have hbd := hFn F[k] (List.getElem_mem hlt)
        have hxs : x.size ≤ 140737488351232 := by rw [← size_list, hx]; exact hbd.1
        have hll : l.length ≤ 140737488351232 := by rw [hl]; exact hbd.2
        have HX := Lib.hid (And.intro hx hl)
        have HB := Lib.hid hb
        clear hx hl hbd hb
        obtain ⟨wf, hwf⟩ : ∃ W0, W0 = wr.alloc (.cells #[.string x, .slice q0 l.length c0] 45) := ⟨_, rfl⟩
        have hbf : Below wr.heap.size wr wf := by rw [hwf]; exact (Below.refl _ wr).alloc (Nat.le_refl _) _
        have hff : wf.heap[wr.heap.size]? = some (.cells #[.string x, .slice q0 l.length c0] 45 (0, 0)) := by rw [hwf]; exact heap_alloc_new wr _
        have hindf := hind.below hbf
        have cf0 : wf.cell? ⟨wr.heap.size, 0, none⟩ = some (.string x) := by rw [cell_of_row _ _ _ _ _ _ hff]; rfl
        have hgood := good_any x wf hxs
        rw [hwf] at hgood cf0
        have HWF := Lib.hid (And.intro hwf (And.intro hbf (And.intro hff hindf)))
        clear hwf hbf hff hind hindf
        obtain ⟨gd, hgd⟩ : ∃ gd, gd = goodN x.data.toList := ⟨_, rfl⟩
        rw [← hgd] at hgood
        have HGD := Lib.hid hgd
        clear hgd
        go_wp2_with fail
        refine hgood.mono ?_
        rw [← HWF.out.1]
        rintro e w3 ⟨rfl, hb3⟩
        clear hgood cf0
        cases gd with
        | false =>
          go_wp2_with fail
          go_ret2
          have hno : ¬ okF F := okF_bad (List.getElem?_eq_getElem hlt) (.inl (by unfold badN; rw [← HX.out.1, ← HGD.out]; rfl))
          exact ⟨.inl ⟨by rw [HE1.out hno]; decide, by rw [HE1.out hno]; rfl⟩, HB.out.trans ((HWF.out.2.1.trans (hb3.mono HWF.out.2.1.size)).mono HB.out.size)⟩
        | true =>
          have cf0 : w3.cell? ⟨wr.heap.size, 0, none⟩ = some (.string x) := by rw [cell_of_row _ _ _ _ _ _ ((hb3.block _ (lt_of_heap HWF.out.2.2.1)).trans HWF.out.2.2.1)]; rfl
          have cf1 : w3.cell? ⟨wr.heap.size, 1, none⟩ = some (.slice q0 l.length c0) := by rw [cell_of_row _ _ _ _ _ _ ((hb3.block _ (lt_of_heap HWF.out.2.2.1)).trans HWF.out.2.2.1)]; rfl
          by_cases hlast : lb.data.toList < x.data.toList
          · have q1 : Op.bytesLess x.toList lb.toList = false := by rw [lessN]; exact decide_eq_false (fun e => absurd (List.lt_trans hlast e) (List.lt_irrefl _))
            have q2 : (x.toList == lb.toList) = false := by rw [strs_eq]; exact decide_eq_false (fun e => by rw [e] at hlast; exact absurd hlast (List.lt_irrefl _))
            have HLAST := Lib.hid hlast
            have hb03 : Below wr.heap.size wr w3 := HWF.out.2.1.trans (hb3.mono HWF.out.2.1.size)
            have hna := HK.out.1
            have hdd3 := (hb03.block _ (lt_of_heap hna.blk)).trans hna.blk
            have cd0 : w3.cell? ⟨w1.heap.size, 0, none⟩ = some (.map (some w.heap.size)) := by rw [cell_of_row _ _ _ _ _ _ hdd3]; rfl
            have cd3 : w3.cell? ⟨w1.heap.size, 3, none⟩ = some (.int .i64 k) := by rw [cell_of_row _ _ _ _ _ _ hdd3]; rfl
            obtain ⟨S, hS⟩ : ∃ S : World → Prop, S = fun W => W.cell? ⟨w1.heap.size, 0, none⟩ = some (.map (some w.heap.size)) ∧ W.cell? ⟨w1.heap.size, 3, none⟩ = some (.int .i64 k) ∧ W.cell? ⟨wr.heap.size, 0, none⟩ = some (.string x) ∧ W.cell? ⟨wr.heap.size, 1, none⟩ = some (.slice q0 l.length c0) := ⟨_, rfl⟩
            have HSS := Lib.hid (fun W => show S W ↔ W.cell? ⟨w1.heap.size, 0, none⟩ = some (.map (some w.heap.size)) ∧ W.cell? ⟨w1.heap.size, 3, none⟩ = some (.int .i64 k) ∧ W.cell? ⟨wr.heap.size, 0, none⟩ = some (.string x) ∧ W.cell? ⟨wr.heap.size, 1, none⟩ = some (.slice q0 l.length c0) by rw [hS])
            have step : ∀ W W', S W → (∀ a : Addr, a.block = w1.heap.size ∨ a.block = wr.heap.size → W'.cell? a = W.cell? a) → S W' := by
              intro W W' h1 hb
              rw [hS] at h1 ⊢
              obtain ⟨h0, h1, h2, h3⟩ := h1
              exact ⟨(hb _ (.inl rfl)).trans h0, (hb _ (.inl rfl)).trans h1, (hb _ (.inr rfl)).trans h2, (hb _ (.inr rfl)).trans h3⟩
            have hS0 : S w3.drew := by
              rw [hS]
              exact ⟨cd0, cd3, cf0, cf1⟩
            have HK0 := Lib.hid hS0
            have hind3 : In8 w3 q0 l := HWF.out.2.2.2.below hb3
            have hlt1 := lt_of_heap hna.blk
            have hszr : wr.heap.size < w3.heap.size := by have := lt_of_heap HWF.out.2.2.1; have := hb3.size; omega
            have hbnlt := hna.now.lt
            have hbnd := map_ne hna.now hna.blk
            have HCL := Lib.hid (show Calls Tryd.prog 48 #[.slice q0 l.length c0] w3.drew fun e w' => ∃ qv cv, e = .returned (.slice qv l.length cv) ∧ Own8 w' w3.heap.size (.slice qv l.length cv) l ∧ Below w3.heap.size w3 w' ∧ S w' ∧ ∃ w5, (Instr.mapUpdate 76 (.map (some w.heap.size)) (.string x) (.pointer (some ⟨w'.heap.size, 0, none⟩))).run Tryd.prog (w'.alloc (.cells #[.int .i64 k, .slice qv l.length cv, .int .i64 l.length] 81)) = .ok () w5 ∧ OwnN w5 w.heap.size (insN x.data.toList w'.heap.size (zipN (F.take k) G)) ∧ (w'.alloc (.cells #[.int .i64 k, .slice qv l.length cv, .int .i64 l.length] 81)).grownBy w5 (some w.heap.size) ∧ S w5 ∧ S (w'.alloc (.cells #[.int .i64 k, .slice qv l.length cv, .int .i64 l.length] 81)) from
              (cloneB_any l q0 _ c0 rfl (by omega) hqc w3.drew (hind3.below ((Below.refl _ w3).drew))).mono fun _ w' ⟨v, h1, h2, h3⟩ => by
                obtain ⟨qv, cv, rfl, _, _, _⟩ := h2.in8n rfl
                have hb4 : Below w3.heap.size w3 w' := ((Below.refl _ w3).drew).trans h3
                have hSw : S w' := step _ _ hS0 (fun a ha => h3.cell (by show a.block < w3.heap.size; have := hb03.size; rcases ha with e | e <;> omega))
                obtain ⟨w5, r1, r2, r3, _⟩ := run_putF ((hna.now.below hb03).below (hb4.alloc hb4.size (.cells #[.int .i64 k, .slice qv l.length cv, .int .i64 l.length] 81))) x w'.heap.size (by unfold maxLen; omega) (by unfold zipN maxLen; rw [List.length_zipWith, List.length_take]; omega)
                refine ⟨qv, cv, h1, h2, hb4, hSw, w5, r1, r2, r3, step _ _ hSw fun a ha => ?_, step _ _ hSw fun a ha => Below.cell ((Below.refl w'.heap.size w').alloc (Nat.le_refl _) _) (by show a.block < w'.heap.size; have := hb03.size; have := hb4.size; rcases ha with e | e <;> omega)⟩
                have e1 : a.block < w'.heap.size := by have := hb03.size; have := hb4.size; rcases ha with e | e <;> omega
                have e2 := r3.block a.block (by simp; omega) (fun e => by injection e with e; rcases ha with e' | e' <;> omega)
                have e3 := heap_alloc_old w' (.cells #[.int .i64 k, .slice qv l.length cv, .int .i64 l.length] 81) e1
                simp only [World.cell?, e2, e3])
            have HNA := Lib.hid hna
            have HB03 := Lib.hid hb03
            clear step hS hS0 hind3 hdd3 hlast cd0 cd3 hna hb03 hlt1 hszr hbnlt hbnd
            go_wp2_with fail
            go_region_held3 (fun W => W.cell? ⟨w1.heap.size, 0, none⟩ = some (.map (some w.heap.size)) ∧ W.cell? ⟨w1.heap.size, 3, none⟩ = some (.int .i64 k) ∧ W.cell? ⟨wr.heap.size, 0, none⟩ = some (.string x) ∧ W.cell? ⟨wr.heap.size, 1, none⟩ = some (.slice q0 l.length c0))
              (first | (with_reducible exact (HSS.out _).1 HK0.out) | (with_reducible exact (HSS.out _).1 HK1.out) | (with_reducible exact (HSS.out _).1 HK2.out) | (with_reducible exact (HSS.out _).1 HK3.out))
              (first
                | (go_at_call 48; with_reducible refine HCL.out.mono ?_; rintro e w4 ⟨qv, cv, rfl, hown, hb4, hk1, w5, hr5, hm5, hg5, hk2, hk3⟩; have HOW := Lib.hid (And.intro hown (And.intro hb4 (And.intro hm5 hg5))); have HK1 := Lib.hid hk1; have HK2 := Lib.hid hk2; have HK3 := Lib.hid hk3; clear hk1 hk2 hk3 hown hb4 hm5 hg5))
            all_goals
              obtain ⟨hown, hb4, hm5, hg5⟩ := HOW.out
              have hna := HNA.out
              have hb03 := HB03.out
              have hbW : Below wr.heap.size wr (w4.alloc (.cells #[.int .i64 k, .slice qv l.length cv, .int .i64 l.length] 81)) := (hb03.trans (hb4.mono hb03.size)).alloc (by have := hb03.size; have := hb4.size; omega) _
              have hbnd := map_ne hna.now hna.blk
              have hdd5 := ((hg5.block _ (Nat.lt_of_lt_of_le (lt_of_heap hna.blk) hbW.size) (fun e => by injection e with e; exact hbnd e.symm)).trans (hbW.block _ (lt_of_heap hna.blk))).trans hna.blk
              have f5 := frozen_of_row w5 w1.heap.size 3 _ _ hdd5
              have c53 : w5.cell? ⟨w1.heap.size, 3, none⟩ = some (.int .i64 k) := by rw [cell_of_row _ _ _ _ _ _ hdd5]; rfl
              have HG := Lib.hid (And.intro hbW (And.intro hbnd (And.intro hb03 hg5)))
              clear hown hb4 hm5 hg5 hna hb03 hbW hbnd hdd5
              go_wp2_with fail
              obtain ⟨hown, hb4, hm5, _⟩ := HOW.out
              obtain ⟨hbW, hbnd, hb03, hg5⟩ := HG.out
              have hna := HNA.out
              obtain ⟨_, hrow, hb, hsw⟩ := HK.out
              obtain ⟨hx, hl⟩ := HX.out
              obtain ⟨w6, hw6⟩ : ∃ W0, W0 = w5.setCell ⟨w1.heap.size, 3, none⟩ (.int .i64 ((k : Int) + 1)) := ⟨_, rfl⟩
              have hxk : F[k]? = some F[k] := List.getElem?_eq_getElem hlt
              obtain ⟨hok, hall⟩ := okF_snoc hxk hna.ok (by rw [← hx]; unfold badN; rw [← HGD.out]; rfl) (fun y h0 hy => by
                have hl2 := HLAST.out
                rw [HLB.out, hx] at hl2
                cases k with
                | zero => omega
                | succ k' =>
                  have e : lastN F (k' + 1) = y.1 := by
                    show ((F[k']?).map (·.1)).getD [] = _
                    have : F[k']? = some y := hy
                    rw [this]; rfl
                  rw [e] at hl2
                  exact hl2)
              have hP : ∀ g, wr.heap.size ≤ g → w.heap.size ≤ g ∧ fv.ownBlock ≠ some g := fun g hg => ⟨Nat.le_trans hb.size hg, fun e => by
                have h1 := HI.out.2.2.2 g e
                have h2 := HSZ.out.1
                omega⟩
              rw [hx] at hm5
              rw [hl] at hown
              have hst := hna.step hxk hbW (g0 := w4.heap.size) (by have := hb03.size; have := hb4.size; omega) (by rw [← hl]; exact heap_alloc_new w4 _) ((hown.mono hb03.size).alloc _) hg5 hm5 hw6 hP hok hall
              have keep6 : ∀ g, g < wr.heap.size → g ≠ w.heap.size → g ≠ w1.heap.size → w6.heap[g]? = wr.heap[g]? := fun g h1 h2 h3 => by
                rw [hw6]
                exact ((Below.heap_setCell _ _ _ _ h3).trans (hg5.block g (Nat.lt_of_lt_of_le h1 hbW.size) (fun e => h2 (by injection e)))).trans (hbW.block g h1)
              have hsz6 : wr.heap.size ≤ w6.heap.size := by have h1 := hg5.size; have h2 := hbW.size; rw [hw6]; simp only [World.setCell]; simp only [Array.size_modify]; omega
              have hrow6 := rowKeep (w' := w6) hrow (fun g cur _ hc => keep6 g (lt_of_heap hc) (fun e => map_ne hna.now hc e.symm) (blk_ne hc hna.blk (by decide)))
              have hszl := HSZ.out.2
              have hb6 : Below w.heap.size w w6 := by
                refine ⟨?_, ?_, ?_, Nat.le_trans hb.size hsz6, fun g hg => ?_⟩
                · rw [hw6]; exact hg5.os.trans (hbW.os.trans hb.os)
                · rw [hw6]; exact hg5.tape.trans (hbW.tape.trans hb.tape)
                · rw [hw6]; exact hg5.output.trans (hbW.output.trans hb.output)
                · exact (keep6 g (Nat.lt_of_lt_of_le hg hb.size) (by omega) (by omega)).trans (hb.block g hg)
              rw [← hw6]
              go_roundw
              case rel => exact ⟨k + 1, _, x, by omega, by go_num, rfl, by rw [hx]; show _ = ((F[k]?).map (·.1)).getD []; rw [hxk]; rfl, hst, hrow6, hb6, Nat.le_trans hsw hsz6⟩
              case measure => simp [intOf]; omega
          · have HLAST := Lib.hid hlast
            by_cases heq : x.data.toList = lb.data.toList
            · have q2 : (x.toList == lb.toList) = true := by rw [strs_eq]; exact decide_eq_true heq
              have q3 : (Op.bytesLess x.toList lb.toList || true) = true := Bool.or_true _
              clear heq hlast
              go_wp2_with fail
              go_ret2
              have hno : ¬ okF F := by
                have hxk : F[k]? = some F[k] := List.getElem?_eq_getElem hlt
                have hn := HLAST.out
                rw [HLB.out, HX.out.1] at hn
                cases k with
                | zero =>
                  exfalso
                  have e : F[0].1 = [] := by
                    cases hc : F[0].1 with
                    | nil => rfl
                    | cons y r => rw [hc] at hn; exact absurd (List.nil_lt_cons y r) hn
                  have := HGD.out
                  rw [HX.out.1, e] at this
                  exact absurd this (by decide)
                | succ k' =>
                  refine okF_bad hxk (.inr ⟨F[k'], by omega, List.getElem?_eq_getElem (by omega), ?_⟩)
                  have e : lastN F (k' + 1) = F[k'].1 := by
                    show ((F[k']?).map (·.1)).getD [] = _
                    rw [List.getElem?_eq_getElem (by omega)]; rfl
                  rw [e] at hn
                  exact hn
              exact ⟨.inl ⟨by rw [HE1.out hno]; decide, by rw [HE1.out hno]; rfl⟩, HB.out.trans ((HWF.out.2.1.trans (hb3.mono HWF.out.2.1.size)).mono HB.out.size)⟩
            · have q1 : Op.bytesLess x.toList lb.toList = true := by rw [lessN]; exact decide_eq_true (lt_of_le_ne (List.not_lt.1 hlast) (fun e => heq e.symm))
              clear heq hlast
              go_wp2_with fail
              go_ret2
              have hno : ¬ okF F := by
                have hxk : F[k]? = some F[k] := List.getElem?_eq_getElem hlt
                have hn := HLAST.out
                rw [HLB.out, HX.out.1] at hn
                cases k with
                | zero =>
                  exfalso
                  have e : F[0].1 = [] := by
                    cases hc : F[0].1 with
                    | nil => rfl
                    | cons y r => rw [hc] at hn; exact absurd (List.nil_lt_cons y r) hn
                  have := HGD.out
                  rw [HX.out.1, e] at this
                  exact absurd this (by decide)
                | succ k' =>
                  refine okF_bad hxk (.inr ⟨F[k'], by omega, List.getElem?_eq_getElem (by omega), ?_⟩)
                  have e : lastN F (k' + 1) = F[k'].1 := by
                    show ((F[k']?).map (·.1)).getD [] = _
                    rw [List.getElem?_eq_getElem (by omega)]; rfl
                  rw [e] at hn
                  exact hn
              exact ⟨.inl ⟨by rw [HE1.out hno]; decide, by rw [HE1.out hno]; rfl⟩, HB.out.trans ((HWF.out.2.1.trans (hb3.mono HWF.out.2.1.size)).mono HB.out.size)⟩
      · obtain rfl : k = F.length := by omega
        obtain ⟨hna, hrow, hb, hsw⟩ := HK.out
        have hnow := hna.now
        rw [List.take_length] at hnow
        have c0 : wr.cell? ⟨w1.heap.size, 0, none⟩ = some (.map (some w.heap.size)) := by rw [cell_of_row _ _ _ _ _ _ hna.blk]; rfl
        have hcl := cloneF_any hnow
        clear hna hrow hb hsw hnow
        go_wp2_with fail
        refine hcl.mono ?_
        rintro e w3 ⟨rfl, hm3, hb3⟩
        clear hcl
        have hdd3 := (hb3.block _ (lt_of_heap HK.out.1.blk)).trans HK.out.1.blk
        have f3 := frozen_of_row w3 w1.heap.size 1 _ _ hdd3
        have c1 : w3.cell? ⟨w1.heap.size, 1, none⟩ = some (.map none) := by rw [cell_of_row _ _ _ _ _ _ hdd3]; rfl
        have HM := Lib.hid (And.intro hm3 (And.intro hb3 hdd3))
        clear hm3 hb3 hdd3
        go_wp2_with fail
        go_ret2
        obtain ⟨hna, hrow, hb, hsw⟩ := HK.out
        obtain ⟨hm3, hb3, _⟩ := HM.out
        have hok : okF F := by have := hna.ok; rwa [List.take_length] at this
        have hszl := HSZ.out.2
        obtain ⟨w4, hw4⟩ : ∃ W0, W0 = w3.setCell ⟨w1.heap.size, 1, none⟩ (.map (some wr.heap.size)) := ⟨_, rfl⟩
        have hdone := hna.done HFV.out hrow hb3 rfl hm3 hw4 hr0 ⟨by omega, Nat.le_refl _⟩ hb.size
        rw [← hw4]
        refine ⟨.inr ⟨HE0.out hok, _, _, rfl, hdone, fun g hg => hg.1⟩, ?_⟩
        refine ⟨?_, ?_, ?_, ?_, fun g hg => ?_⟩
        · rw [hw4]; exact hb3.os.trans hb.os
        · rw [hw4]; exact hb3.tape.trans hb.tape
        · rw [hw4]; exact hb3.output.trans hb.output
        · rw [hw4]; have := hb3.size; have := hb.size; simp only [World.setCell]; simp only [Array.size_modify]; omega
        · have hne : g ≠ w1.heap.size := by omega
          rw [hw4]
          exact ((Below.heap_setCell _ _ _ _ hne).trans (hb3.block g (Nat.lt_of_lt_of_le hg hb.size))).trans (hb.block g hg)
theorem new_p (F : List FT) (p : Option Addr) (n c : Nat) (hn : F.length = n) (room : Int) (Z : List Int) (q : Option Addr) (m d : Nat) (hm : Z.length = m) (power : Int) (w : World) (hF : InFs w p F) (hZ : InV w q (Z.map (Value.int .i64))) (hFl : F.length ≤ 4000000000000) (hFn : ∀ f ∈ F, f.1.length ≤ 140737488351232 ∧ f.2.length ≤ 140737488351232) (hZl : Z.length ≤ 4000000000000) :
    Calls Tryd.prog 34 #[.slice p n c, .int .i64 room, .slice q m d, .int .i64 power] w fun e w' =>
      (newE F room ≠ 0 ∧ e = .returned (.tuple #[.pointer none, .int .i64 (newE F room)]) ∨ newE F room = 0 ∧ ∃ dd P, e = .returned (.tuple #[.pointer (some ⟨dd, 0, none⟩), .int .i64 0]) ∧ DiskP w' P dd (newP F room Z power) ∧ ∀ g, P g → w.heap.size ≤ g) ∧ Below w.heap.size w w' := by
  refine (new_pS F p n c hn room Z q m d hm power w hF hZ hFl hFn hZl).mono ?_
  rintro e w' ⟨h1 | ⟨h1, dd, P, h2, ⟨S, h3, h4, _⟩, h5⟩, hb⟩
  · exact ⟨.inl h1, hb⟩
  · exact ⟨.inr ⟨h1, dd, P, h2, ⟨S, h3, h4⟩, h5⟩, hb⟩
end Go.Proofs.YtnhfnfdmpcpcoaaDoor

/-
  The steps of a script: do, step, cut; copies of numbers and fates.
-/
namespace Go.Proofs.YtnhfnfdmpcpcoaaDoor
open Go.RowKit Go.Maps

/-- the step that an op means -/
def opOf (wh : Int) (a b d : BS) : Opp := if wh = 1 then .create a else if wh = 2 then .append a d else if wh = 3 then .sync a else if wh = 4 then .names else if wh = 5 then .rename a b else .remove a
theorem StepPost.from {w wa : World} {P : Nat → Prop} {dd : Nat} {A : Pl} {o : Opp} {e : Ending} {w' : World} (hb : Below w.heap.size w wa) (h : StepPost wa P dd A o e w') : StepPost w P dd A o e w' := by
  obtain ⟨h1, ⟨P', h2, h3⟩, h4⟩ := h
  exact ⟨h1, ⟨P', h2, fun g hg => (h3 g hg).imp id (fun e => Nat.le_trans hb.size e)⟩, ⟨h4.os.trans hb.os, h4.tape.trans hb.tape, h4.output.trans hb.output, Nat.le_trans hb.size h4.size, fun k hk hnk => (h4.block k (Nat.lt_of_lt_of_le hk hb.size) hnk).trans (hb.block k hk)⟩⟩
theorem DiskP.below {w w' : World} {P : Nat → Prop} {dd : Nat} {A : Pl} (h : DiskP w P dd A) (hb : Below w.heap.size w w') : DiskP w' P dd A := by
  obtain ⟨S, h, e⟩ := h
  exact ⟨S, h.below hb, e⟩

theorem DiskAt.shrink {w : World} {P : Nat → Prop} {dd : Nat} {S : DiskC} (h : DiskAt w P dd S) : DiskAt w (fun g => P g ∧ g < w.heap.size) dd S where
  blk := h.blk
  now := h.now
  safe := h.safe
  ne := h.ne
  row := h.row
  chg := h.chg
  fails := ⟨h.fails.1, h.fails.2.1, fun a ha h0 hP => h.fails.2.2 a ha h0 hP.1⟩
  files := fun i f hf => by
    obtain ⟨h1, h2, h3, h4, h5⟩ := h.files i f hf
    exact ⟨h1, h2, fun r hr => ⟨h3 r hr, (World.ownsRow.lt h2 r hr).2⟩, ⟨h4, lt_of_heap h1⟩, h5⟩
  apart := h.apart
  nowF := h.nowF
  safeF := h.safeF
  inP := ⟨⟨h.inP.1, lt_of_heap h.blk⟩, ⟨h.inP.2.1, h.now.lt⟩, ⟨h.inP.2.2.1, h.safe.lt⟩, fun r hr => ⟨h.inP.2.2.2 r hr, (World.ownsRow.lt h.row r hr).2⟩⟩
theorem DiskP.shrink {w : World} {P : Nat → Prop} {dd : Nat} {A : Pl} (h : DiskP w P dd A) : DiskP w (fun g => P g ∧ g < w.heap.size) dd A := by
  obtain ⟨S, h, e⟩ := h
  exact ⟨S, h.shrink, e⟩
theorem StepPost.weak {w : World} {P Q : Nat → Prop} (hPQ : ∀ g, P g → Q g) {dd : Nat} {A : Pl} {o : Opp} {e : Ending} {w' : World} (h : StepPost w P dd A o e w') : StepPost w Q dd A o e w' := by
  obtain ⟨h1, ⟨P', h2, h3⟩, h4⟩ := h
  exact ⟨h1, ⟨P', h2, fun g hg => (h3 g hg).imp (hPQ g) id⟩, ⟨h4.os, h4.tape, h4.output, h4.size, fun k hk hnk => h4.block k hk (fun e => hnk (hPQ k e))⟩⟩

set_option maxRecDepth 100000 in
set_option maxHeartbeats 4000000 in
theorem do_any {w : World} {P : Nat → Prop} {dd : Nat} {A : Pl} (h : DiskP w P dd A) (wh : Int) (na nb : ByteArray) (l : BS) (q : Option Addr) (m c : Nat) (hm : l.length = m) (hna : na.size ≤ 140737488351232) (hnb : nb.size ≤ 140737488351232) (hl : m ≤ 140737488351232) (hin : In8 w q l) (hfit : FitP A) :
    Calls Tryd.prog 25 #[.pointer (some ⟨dd, 0, none⟩), .agg #[.int .i64 wh, .string na, .string nb, .slice q m c]] w (StepPost w P dd A (opOf wh na.data.toList nb.data.toList l)) := by
  subst hm
  obtain ⟨wa, hwa⟩ : ∃ W0, W0 = w.alloc (.cells #[.int .i64 wh, .string na, .string nb, .slice q l.length c] 57) := ⟨_, rfl⟩
  have hba : Below w.heap.size w wa := by rw [hwa]; exact (Below.refl _ w).alloc (Nat.le_refl _) _
  have hha := h.below hba
  have hina := hin.below hba
  have h1 := create_p hha na hna hfit
  have h2 := copyBytes_any l q _ c rfl (by omega) wa hina
  have h3 := sync_p hha na hna hfit
  have h4 := names_p hha hfit
  have h5 := rename_p hha na nb hna hnb hfit
  have h6 := remove_p hha na hna hfit
  rw [hwa] at h1 h2 h3 h4 h5 h6
  have HW := Lib.hid (And.intro hwa (And.intro hba hha))
  clear hwa hba hha hina
  by_cases e1 : wh = 1
  · subst e1
    have HO := Lib.hid (show opOf 1 na.data.toList nb.data.toList l = .create na.data.toList from rfl)
    clear h2 h3 h4 h5 h6
    go_enter Tryd.func25, Tryd.ntmps25
    go_wp2_with fail
    refine h1.mono ?_
    rw [← HW.out.1]
    rintro e w2 hp
    obtain ⟨rfl, hr⟩ := hp
    clear h1
    go_wp2_with fail
    go_ret
    exact StepPost.from HW.out.2.1 (by rw [HO.out]; exact ⟨rfl, hr⟩)
  · by_cases e2 : wh = 2
    · subst e2
      have HO := Lib.hid (show opOf 2 na.data.toList nb.data.toList l = .append na.data.toList l from rfl)
      clear h1 h2 h3 h4 h5 h6
      obtain ⟨hwa, hba, hha⟩ := HW.out
      have hsa : w.heap.size < wa.heap.size := by rw [hwa]; simp
      have hbox : wa.heap[w.heap.size]? = some (.cells #[.int .i64 2, .string na, .string nb, .slice q l.length c] 57 (0, 0)) := by rw [hwa]; exact heap_alloc_new w _
      obtain ⟨S, hS⟩ : ∃ S : World → Prop, S = fun W => W.cell? ⟨w.heap.size, 1, none⟩ = some (.string na) ∧ W.cell? ⟨w.heap.size, 3, none⟩ = some (.slice q l.length c) := ⟨_, rfl⟩
      have HSS := Lib.hid (fun W => show S W ↔ W.cell? ⟨w.heap.size, 1, none⟩ = some (.string na) ∧ W.cell? ⟨w.heap.size, 3, none⟩ = some (.slice q l.length c) by rw [hS])
      have step : ∀ W : World, W.heap[w.heap.size]? = wa.heap[w.heap.size]? → S W := fun W hb => by
        rw [hS]
        exact ⟨by rw [cell_of_row _ _ _ _ _ _ (hb.trans hbox)]; rfl, by rw [cell_of_row _ _ _ _ _ _ (hb.trans hbox)]; rfl⟩
      have HK0 := Lib.hid (step wa.drew rfl)
      have HCB := Lib.hid (show Calls Tryd.prog 14 #[.slice q l.length c] wa.drew fun e w' => ∃ qv cv, e = .returned (.slice qv l.length cv) ∧ S w' ∧ Calls Tryd.prog 13 #[.pointer (some ⟨dd, 0, none⟩), .string na, .slice qv l.length cv] w' fun e w' => ∃ z, e = .returned (.int .i64 z) ∧ z = (doP A (.append na.data.toList l)).2 ∧ StepPost w P dd A (.append na.data.toList l) (.returned (.int .i64 z)) w' ∧ S w' from
        (copyBytes_any l q _ c rfl (by omega) wa.drew ((hin.below hba).below (Below.refl _ wa).drew)).mono fun _ w2 ⟨v, h1, h2, h3⟩ => by
          obtain ⟨qv, cv, rfl, _, _, hin2⟩ := h2.in8n rfl
          have hb2 : Below wa.heap.size wa w2 := ((Below.refl _ wa).drew).trans h3
          have hbw : Below w.heap.size w w2 := hba.trans (hb2.mono hba.size)
          refine ⟨qv, cv, h1, step _ (hb2.block _ hsa), (append_p (h.shrink.below hbw) na hna l qv _ cv rfl hl hin2 hfit).mono ?_⟩
          rintro e w3 hp
          have hp2 := hp
          obtain ⟨rfl, _, ho⟩ := hp
          refine ⟨_, rfl, rfl, StepPost.from hbw (StepPost.weak (fun g hg => hg.1) hp2), step _ ((ho.block _ (Nat.lt_of_lt_of_le hsa hb2.size) (fun e => Nat.lt_irrefl _ e.2)).trans (hb2.block _ hsa))⟩)
      clear hS step hbox hba hha hsa
      rw [hwa] at HCB HK0
      have HWA := Lib.hid hwa
      clear hwa
      go_enter Tryd.func25, Tryd.ntmps25
      go_wp2_with fail
      go_region_held3 (fun W => W.cell? ⟨w.heap.size, 1, none⟩ = some (.string na) ∧ W.cell? ⟨w.heap.size, 3, none⟩ = some (.slice q l.length c))
        (first | (with_reducible exact (HSS.out _).1 HK0.out) | (with_reducible exact (HSS.out _).1 HK1.out) | (with_reducible exact (HSS.out _).1 HK2.out))
        (first
          | (go_at_call 14; with_reducible refine HCB.out.mono ?_; rintro e w2 ⟨qv, cv, rfl, hk1, hap⟩; have HK1 := Lib.hid hk1; have HAP := Lib.hid hap; clear hk1 hap)
          | (go_at_call 13; with_reducible refine HAP.out.mono ?_; rintro e w3 ⟨z, rfl, hz, hp, hk2⟩; have HK2 := Lib.hid hk2; have HP := Lib.hid hp; clear hk2 hp hz))
      all_goals
        go_wp2_with fail
        go_ret
        rw [HO.out]
        exact HP.out
    · by_cases e3 : wh = 3
      · subst e3
        have HO := Lib.hid (show opOf 3 na.data.toList nb.data.toList l = .sync na.data.toList from rfl)
        clear h1 h2 h4 h5 h6
        go_enter Tryd.func25, Tryd.ntmps25
        go_wp2_with fail
        refine h3.mono ?_
        rw [← HW.out.1]
        rintro e w2 hp
        obtain ⟨rfl, hr⟩ := hp
        clear h3
        go_wp2_with fail
        go_ret
        exact StepPost.from HW.out.2.1 (by rw [HO.out]; exact ⟨rfl, hr⟩)
      · by_cases e4 : wh = 4
        · subst e4
          have HO := Lib.hid (show opOf 4 na.data.toList nb.data.toList l = .names from rfl)
          clear h1 h2 h3 h5 h6
          go_enter Tryd.func25, Tryd.ntmps25
          go_wp2_with fail
          refine h4.mono ?_
          rw [← HW.out.1]
          rintro e w2 hp
          obtain ⟨rfl, hr⟩ := hp
          clear h4
          go_wp2_with fail
          go_ret
          exact StepPost.from HW.out.2.1 (by rw [HO.out]; exact ⟨rfl, hr⟩)
        · by_cases e5 : wh = 5
          · subst e5
            have HO := Lib.hid (show opOf 5 na.data.toList nb.data.toList l = .rename na.data.toList nb.data.toList from rfl)
            clear h1 h2 h3 h4 h6
            go_enter Tryd.func25, Tryd.ntmps25
            go_wp2_with fail
            refine h5.mono ?_
            rw [← HW.out.1]
            rintro e w2 hp
            obtain ⟨rfl, hr⟩ := hp
            clear h5
            go_wp2_with fail
            go_ret
            exact StepPost.from HW.out.2.1 (by rw [HO.out]; exact ⟨rfl, hr⟩)
          · have HO := Lib.hid (show opOf wh na.data.toList nb.data.toList l = .remove na.data.toList by unfold opOf; rw [if_neg e1, if_neg e2, if_neg e3, if_neg e4, if_neg e5])
            have q1 : (wh == 1) = false := beq_eq_false_iff_ne.2 e1
            have q2 : (wh == 2) = false := beq_eq_false_iff_ne.2 e2
            have q3 : (wh == 3) = false := beq_eq_false_iff_ne.2 e3
            have q4 : (wh == 4) = false := beq_eq_false_iff_ne.2 e4
            have q5 : (wh == 5) = false := beq_eq_false_iff_ne.2 e5
            clear h1 h2 h3 h4 h5
            go_enter Tryd.func25, Tryd.ntmps25
            go_wp2_with fail
            refine h6.mono ?_
            rw [← HW.out.1]
            rintro e w2 hp
            obtain ⟨rfl, hr⟩ := hp
            clear h6
            go_wp2_with fail
            go_ret
            exact StepPost.from HW.out.2.1 (by rw [HO.out]; exact ⟨rfl, hr⟩)
end Go.Proofs.YtnhfnfdmpcpcoaaDoor

/-
  SameTexts: are two lists of texts alike?
-/
namespace Go.Proofs.YtnhfnfdmpcpcoaaDoor
open Go.RowKit

theorem take_eq_succL {α : Type} (l m : List α) (k : Nat) (h1 : k < l.length) (h2 : k < m.length) (h : l.take k = m.take k) (e : l[k] = m[k]) : l.take (k + 1) = m.take (k + 1) := by
  rw [List.take_succ_eq_append_getElem h1, List.take_succ_eq_append_getElem h2, h, e]
theorem ne_of_get {α : Type} (l m : List α) (k : Nat) (h1 : k < l.length) (h2 : k < m.length) (e : ¬ l[k] = m[k]) : l ≠ m := by rintro rfl; exact e rfl

set_option maxHeartbeats 1000000 in
theorem sameTexts_any (L M : List (List UInt8)) (p q : Option Addr) (n c n2 d : Nat) (hn : L.length = n) (hn2 : M.length = n2) (hm : n ≤ maxLen) (hm2 : n2 ≤ maxLen) (w : World) (h : InS w p L) (h2 : InS w q M) :
    Calls Tryd.prog 29 #[.slice p n c, .slice q n2 d] w fun e w' => e = .returned (.bool (decide (L = M))) ∧ Below w.heap.size w w' := by
  subst hn
  subst hn2
  unfold maxLen at hm hm2
  by_cases hlen : L.length = M.length
  · have hne : ((L.length : Int) != (M.length : Int)) = false := by simp [hlen]
    go_enter Tryd.func29, Tryd.ntmps29
    go_wp2
    go_loopw [5] (fun i wr => ∃ k : Nat, k ≤ L.length ∧ i = .int .i64 k ∧ L.take k = M.take k ∧ Below w.heap.size w wr) (fun i _ => L.length - (intOf i).toNat)
    case atStart => exact ⟨0, Nat.zero_le _, rfl, rfl, Below.refl _ _⟩
    case round =>
      obtain ⟨k, hk, rfl, hpre, hb⟩ := hrel
      by_cases hlt : k < L.length
      · have hlt2 : k < M.length := by omega
        obtain ⟨b, o, rfl, x, hck, hx⟩ := (h.below hb).at hlt
        obtain ⟨b2, o2, rfl, y, hck2, hy⟩ := (h2.below hb).at hlt2
        have HP := Lib.hid hpre
        have HL := Lib.hid hlen
        have HX := Lib.hid hx
        have HY := Lib.hid hy
        clear h h2 hpre hlen hx hy
        by_cases heq : x.data.toList = y.data.toList
        · have hbool : (x.toList == y.toList) = true := by rw [strs_eq]; simp [heq]
          have hbool2 : (x.toList != y.toList) = false := by simp [bne, hbool]
          have HE := Lib.hid heq
          clear heq
          go_wp2
          go_quiet (fail)
          go_wp2
          go_roundw
          case rel => exact ⟨k + 1, by omega, by go_num, take_eq_succL L M k hlt hlt2 HP.out (by rw [← HX.out, ← HY.out]; exact HE.out), bdrewN hb _⟩
          case measure => simp [intOf]; omega
        · have hbool : (x.toList == y.toList) = false := by rw [strs_eq]; simp [heq]
          have hbool2 : (x.toList != y.toList) = true := by simp [bne, hbool]
          have hno := ne_of_get L M k hlt hlt2 (by rw [← HX.out, ← HY.out]; exact heq)
          have HE := Lib.hid heq
          clear heq
          go_wp2
          go_quiet (fail)
          go_wp2
          go_ret
          exact ⟨ret_bool (by simp [hno]), bdrewN hb _⟩
      · obtain rfl : k = L.length := by omega
        go_wp2
        go_ret
        refine ⟨ret_bool ?_, hb⟩
        rw [List.take_length, hlen, List.take_length] at hpre
        simp [hpre]
  · have hne : ((L.length : Int) != (M.length : Int)) = true := by simp; omega
    have hno : L ≠ M := by rintro rfl; exact hlen rfl
    clear hlen
    go_enter Tryd.func29, Tryd.ntmps29
    go_wp2
    go_ret
    exact ⟨ret_bool (by simp [hno]), Below.refl _ _⟩

/-- the same texts -/
theorem sameTexts_same (M : List (List UInt8)) (p q : Option Addr) (n c n2 d : Nat) (hn : M.length = n) (hn2 : M.length = n2) (hm : n ≤ maxLen) (w : World) (h : InS w p M) (h2 : InS w q M) :
    Calls Tryd.prog 29 #[.slice p n c, .slice q n2 d] w fun e w' => e = .returned (.bool true) ∧ Below w.heap.size w w' := by
  have h3 := sameTexts_any M M p q n c n2 d hn hn2 hm (by omega) w h h2
  rw [show decide (M = M) = true from decide_eq_true rfl] at h3
  exact h3
end Go.Proofs.YtnhfnfdmpcpcoaaDoor

/-
  CopyFiles, SameFiles, names: rows of files.
-/
namespace Go.Proofs.YtnhfnfdmpcpcoaaDoor
open Go.RowKit

theorem takes {α : Type} {L : List α} {k : Nat} (h : k < L.length) : L.take (k + 1) = L.take k ++ [L[k]] := List.take_succ_eq_append_getElem h

set_option maxRecDepth 100000 in
set_option maxHeartbeats 2000000 in
theorem copyFiles_any (F : List FT) (p : Option Addr) (n c : Nat) (hn : F.length = n) (hFl : F.length ≤ 4000000000000) (hFd : ∀ f ∈ F, f.2.length ≤ 140737488351232) (w : World) (hF : InFs w p F) :
    Calls Tryd.prog 35 #[.slice p n c] w fun e w' => ∃ v, e = .returned v ∧ OwnFs w' w.heap.size v F ∧ Below w.heap.size w w' := by
  subst hn
  have hmade := OwnFs.made w
  have hb0 : Below w.heap.size w (w.alloc (.cells #[] 45)) := (Below.refl _ w).alloc (Nat.le_refl _) _
  go_enter Tryd.func35, Tryd.ntmps35
  go_wp2_with fail
  go_loopw [3, 4] (fun v i wr => ∃ k : Nat, k ≤ F.length ∧ i = .int .i64 k ∧ OwnFs wr w.heap.size v (F.take k) ∧ Below w.heap.size w wr) (fun _ i _ => F.length - (intOf i).toNat)
  case atStart => exact ⟨0, Nat.zero_le _, rfl, by rw [List.take_zero]; exact hmade, hb0⟩
  case round =>
    obtain ⟨k, hk, rfl, hown, hb⟩ := hrel
    by_cases hlt : k < F.length
    · obtain ⟨b, o, rfl, x, q, cq, hcx, hcd, hx, hqc, hdl, hind⟩ := hF.at hlt
      obtain ⟨l, hl⟩ : ∃ l, l = F[k].2 := ⟨_, rfl⟩
      rw [← hl] at hcd hdl hind
      have hll : l.length ≤ 140737488351232 := by rw [hl]; exact hFd F[k] (List.getElem_mem hlt)
      have HX := Lib.hid (And.intro hx hl)
      have HOW := Lib.hid hown
      have HB := Lib.hid hb
      obtain ⟨S, hS⟩ : ∃ S : World → Prop, S = fun W => W.cell? ⟨b, o + k * 2, none⟩ = some (.string x) ∧ W.cell? ⟨b, o + k * 2 + 1, none⟩ = some (.slice q l.length cq) := ⟨_, rfl⟩
      have HSS := Lib.hid (fun W => show S W ↔ W.cell? ⟨b, o + k * 2, none⟩ = some (.string x) ∧ W.cell? ⟨b, o + k * 2 + 1, none⟩ = some (.slice q l.length cq) by rw [hS])
      have step : ∀ W, Below w.heap.size w W → S W := fun W hb => by rw [hS]; exact ⟨cell_keep hcx hb, cell_keep hcd hb⟩
      have HST := Lib.hid step
      have HK0 := Lib.hid (step _ hb.drew)
      have HCL := Lib.hid (show Calls Tryd.prog 14 #[.slice q l.length cq] wr.drew fun e w' => ∃ qv cv, e = .returned (.slice qv l.length cv) ∧ Own8 w' w.heap.size (.slice qv l.length cv) l ∧ Below wr.heap.size wr w' ∧ S w' ∧ S (w'.alloc (.cells #[.string x, .slice qv l.length cv] 45)) from
        (copyBytes_any l q _ cq rfl (by omega) wr.drew (hind.below hb.drew)).mono fun _ w' ⟨v, h1, h2, h3⟩ => by
          obtain ⟨qv, cv, rfl, _, _, _⟩ := h2.in8n rfl
          have hb4 : Below wr.heap.size wr w' := ((Below.refl _ wr).drew).trans h3
          have hb5 := hb.trans (hb4.mono hb.size)
          exact ⟨qv, cv, h1, h2.mono hb.size, hb4, step _ hb5, step _ (hb5.alloc (Nat.le_trans hb.size hb4.size) _)⟩)
      clear hS step hind hcx hcd hx hl hown hb hdl
      go_wp2_with fail
      go_region_held3 (fun W => W.cell? ⟨b, o + k * 2, none⟩ = some (.string x) ∧ W.cell? ⟨b, o + k * 2 + 1, none⟩ = some (.slice q l.length cq))
        (first | (with_reducible exact (HSS.out _).1 HK0.out) | (with_reducible exact (HSS.out _).1 HK1.out) | (with_reducible exact (HSS.out _).1 HK2.out) | (with_reducible exact (HSS.out _).1 HK3.out))
        (first
          | (go_at_call 14; with_reducible refine HCL.out.mono ?_; rintro e w4 ⟨qv, cv, rfl, hown4, hb4, hk1, hk2⟩; have HK1 := Lib.hid hk1; have HK2 := Lib.hid hk2; have HO4 := Lib.hid (And.intro hown4 hb4); clear hk1 hk2 hown4 hb4)
          | (refine step_appendFs rfl _ _ rfl w.heap.size _ (F.take k) rfl (HOW.out.below (HO4.out.2.alloc HO4.out.2.size (.cells #[.string x, .slice qv l.length cv] 45))) w4.heap.size _ x.data.toList (.slice qv l.length cv) l rfl (InE.one w4 x _ _) (HO4.out.1.alloc _) (by rw [List.length_take]; omega) (by have h1 := HB.out.size; have h2 := HO4.out.2.size; simp only [World.size_alloc]; omega) ?_; intro v6 w6 hfs6 hg6; have HB6 := Lib.hid ((HOW.out.below (HO4.out.2.alloc HO4.out.2.size (.cells #[.string x, .slice qv l.length cv] 45))).grown ((HB.out.trans (HO4.out.2.mono HB.out.size)).alloc (Nat.le_trans HB.out.size HO4.out.2.size) _) (by have h1 := HB.out.size; have h2 := HO4.out.2.size; simp only [World.size_alloc]; omega) hg6); have HK3 := Lib.hid (HST.out _ HB6.out); have HF6 := Lib.hid hfs6; clear hfs6 hg6))
      all_goals
        go_wp2_with fail
        go_roundw
        case rel => exact ⟨k + 1, by omega, by go_num, by rw [takes hlt, show F[k] = (x.data.toList, l) from Prod.ext HX.out.1.symm HX.out.2.symm]; exact HF6.out, HB6.out⟩
        case measure => simp [intOf]; omega
    · obtain rfl : k = F.length := by omega
      go_wp2_with fail
      go_ret
      rw [List.take_length] at hown
      exact ⟨_, rfl, hown, hb⟩

set_option maxRecDepth 100000 in
set_option maxHeartbeats 2000000 in
theorem sameFiles_any (F G : List FT) (p q : Option Addr) (n c n2 d : Nat) (hn : F.length = n) (hn2 : G.length = n2) (hm : n ≤ 140737488351232) (hm2 : n2 ≤ 140737488351232) (w : World) (hF : InFs w p F) (hG : InFs w q G) :
    Calls Tryd.prog 27 #[.slice p n c, .slice q n2 d] w fun e w' => e = .returned (.bool (decide (F = G))) ∧ Below w.heap.size w w' := by
  subst hn
  subst hn2
  by_cases hlen : F.length = G.length
  · have hne : ((F.length : Int) != (G.length : Int)) = false := by simp [hlen]
    go_enter Tryd.func27, Tryd.ntmps27
    go_wp2
    go_loopw [5] (fun i wr => ∃ k : Nat, k ≤ F.length ∧ i = .int .i64 k ∧ F.take k = G.take k ∧ Below w.heap.size w wr) (fun i _ => F.length - (intOf i).toNat)
    case atStart => exact ⟨0, Nat.zero_le _, rfl, rfl, Below.refl _ _⟩
    case round =>
      obtain ⟨k, hk, rfl, hpre, hb⟩ := hrel
      by_cases hlt : k < F.length
      · have hlt2 : k < G.length := by omega
        obtain ⟨b, o, rfl, x, px, cx, hx1, hx2, hx, _, hxl, hxi⟩ := hF.at hlt
        obtain ⟨b2, o2, rfl, y, py, cy, hy1, hy2, hy, _, hyl, hyi⟩ := hG.at hlt2
        obtain ⟨l, hl⟩ : ∃ l, l = F[k].2 := ⟨_, rfl⟩
        obtain ⟨m, hm⟩ : ∃ l, l = G[k].2 := ⟨_, rfl⟩
        rw [← hl] at hx2 hxl hxi
        rw [← hm] at hy2 hyl hyi
        have HX := Lib.hid (And.intro hx hl)
        have HY := Lib.hid (And.intro hy hm)
        have HP := Lib.hid hpre
        have HL := Lib.hid hlen
        have HB := Lib.hid hb
        obtain ⟨S, hS⟩ : ∃ S : World → Prop, S = fun W => W.cell? ⟨b, o + k * 2, none⟩ = some (.string x) ∧ W.cell? ⟨b, o + k * 2 + 1, none⟩ = some (.slice px l.length cx) ∧ W.cell? ⟨b2, o2 + k * 2, none⟩ = some (.string y) ∧ W.cell? ⟨b2, o2 + k * 2 + 1, none⟩ = some (.slice py m.length cy) := ⟨_, rfl⟩
        have HSS := Lib.hid (fun W => show S W ↔ W.cell? ⟨b, o + k * 2, none⟩ = some (.string x) ∧ W.cell? ⟨b, o + k * 2 + 1, none⟩ = some (.slice px l.length cx) ∧ W.cell? ⟨b2, o2 + k * 2, none⟩ = some (.string y) ∧ W.cell? ⟨b2, o2 + k * 2 + 1, none⟩ = some (.slice py m.length cy) by rw [hS])
        have step : ∀ W, Below w.heap.size w W → S W := fun W hb => by rw [hS]; exact ⟨cell_keep hx1 hb, cell_keep hx2 hb, cell_keep hy1 hb, cell_keep hy2 hb⟩
        have HST := Lib.hid step
        have HK0 := Lib.hid (step _ hb.drew)
        have HSB := Lib.hid (show Calls Tryd.prog 21 #[.slice px l.length cx, .slice py m.length cy] wr.drew fun e w' => e = .returned (.bool (decide (l = m))) ∧ Below w.heap.size w w' ∧ S w' from
          (sameBytes_any l m px py _ cx _ cy rfl rfl hxl hyl wr.drew (hxi.below hb.drew) (hyi.below hb.drew)).mono fun _ w' ⟨h1, h2⟩ => ⟨h1, hb.drew.trans (h2.mono hb.drew.size), step _ (hb.drew.trans (h2.mono hb.drew.size))⟩)
        have e1 := hb.cell (World.block_lt_of_cell? w _ hx1)
        have e2 := hb.cell (World.block_lt_of_cell? w _ hy1)
        rw [hx1] at e1
        rw [hy1] at e2
        clear hS step hx1 hx2 hy1 hy2 hxi hyi hx hy hl hm hpre hlen hb
        by_cases heq : x.data.toList = y.data.toList
        · have hbool : (x.toList == y.toList) = true := by rw [strs_eq]; simp [heq]
          have hbool2 : (x.toList != y.toList) = false := by simp [bne, hbool]
          have HE := Lib.hid heq
          clear heq
          cases hd : decide (l = m) with
          | true =>
            rw [hd] at HSB
            have HLM := Lib.hid (of_decide_eq_true hd)
            clear hd
            go_wp2_with fail
            go_region_held3 (fun W => W.cell? ⟨b, o + k * 2, none⟩ = some (.string x) ∧ W.cell? ⟨b, o + k * 2 + 1, none⟩ = some (.slice px l.length cx) ∧ W.cell? ⟨b2, o2 + k * 2, none⟩ = some (.string y) ∧ W.cell? ⟨b2, o2 + k * 2 + 1, none⟩ = some (.slice py m.length cy))
              (first | (with_reducible exact (HSS.out _).1 HK0.out) | (with_reducible exact (HSS.out _).1 HK1.out))
              (first | (go_at_call 21; with_reducible refine HSB.out.mono ?_; rintro e w4 ⟨rfl, hb4, hk1⟩; have HK1 := Lib.hid hk1; have HB4 := Lib.hid hb4; clear hk1 hb4))
            all_goals
              go_wp2_with fail
              go_roundw
              case rel => exact ⟨k + 1, by omega, by go_num, take_eq_succL F G k hlt hlt2 HP.out (Prod.ext (by rw [← HX.out.1, ← HY.out.1]; exact HE.out) (by rw [← HX.out.2, ← HY.out.2]; exact HLM.out)), HB4.out⟩
              case measure => simp [intOf]; omega
          | false =>
            rw [hd] at HSB
            have hno : F ≠ G := ne_of_get F G k hlt hlt2 (fun e => by
              have := of_decide_eq_false hd
              rw [HX.out.2, HY.out.2, e] at this
              exact this rfl)
            clear hd
            go_wp2_with fail
            go_region_held3 (fun W => W.cell? ⟨b, o + k * 2, none⟩ = some (.string x) ∧ W.cell? ⟨b, o + k * 2 + 1, none⟩ = some (.slice px l.length cx) ∧ W.cell? ⟨b2, o2 + k * 2, none⟩ = some (.string y) ∧ W.cell? ⟨b2, o2 + k * 2 + 1, none⟩ = some (.slice py m.length cy))
              (first | (with_reducible exact (HSS.out _).1 HK0.out) | (with_reducible exact (HSS.out _).1 HK1.out))
              (first | (go_at_call 21; with_reducible refine HSB.out.mono ?_; rintro e w4 ⟨rfl, hb4, hk1⟩; have HK1 := Lib.hid hk1; have HB4 := Lib.hid hb4; clear hk1 hb4))
            all_goals
              go_wp2_with fail
              go_ret
              exact ⟨ret_bool (by simp [hno]), HB4.out⟩
        · have hbool : (x.toList == y.toList) = false := by rw [strs_eq]; simp [heq]
          have hbool2 : (x.toList != y.toList) = true := by simp [bne, hbool]
          have hno : F ≠ G := ne_of_get F G k hlt hlt2 (fun e => by
            have h3 := HX.out.1
            have h4 := HY.out.1
            rw [e] at h3
            exact heq (h3.trans h4.symm))
          clear heq
          go_wp2_with fail
          go_quiet (fail)
          go_wp2_with fail
          go_ret
          exact ⟨ret_bool (by simp [hno]), bdrewN HB.out _⟩
      · obtain rfl : k = F.length := by omega
        go_wp2
        go_ret
        refine ⟨ret_bool ?_, hb⟩
        rw [List.take_length, hlen, List.take_length] at hpre
        simp [hpre]
  · have hne : ((F.length : Int) != (G.length : Int)) = true := by simp; omega
    have hno : F ≠ G := by rintro rfl; exact hlen rfl
    clear hlen
    go_enter Tryd.func27, Tryd.ntmps27
    go_wp2
    go_ret
    exact ⟨ret_bool (by simp [hno]), Below.refl _ _⟩

set_option maxRecDepth 100000 in
set_option maxHeartbeats 2000000 in
theorem namesL_any (F : List FT) (p : Option Addr) (n c : Nat) (hn : F.length = n) (hFl : F.length ≤ 4000000000000) (w : World) (hF : InFs w p F) :
    Calls Tryd.prog 36 #[.slice p n c] w fun e w' => ∃ v, e = .returned v ∧ OwnS w' w.heap.size v (F.map (·.1)) ∧ Below w.heap.size w w' := by
  subst hn
  have hmade := OwnS.made w
  have hb0 : Below w.heap.size w (w.alloc (.cells #[] 9)) := (Below.refl _ w).alloc (Nat.le_refl _) _
  go_enter Tryd.func36, Tryd.ntmps36
  go_wp2_with fail
  go_loopw [3, 4] (fun v i wr => ∃ k : Nat, k ≤ F.length ∧ i = .int .i64 k ∧ OwnS wr w.heap.size v ((F.take k).map (·.1)) ∧ Below w.heap.size w wr) (fun _ i _ => F.length - (intOf i).toNat)
  case atStart => exact ⟨0, Nat.zero_le _, rfl, by rw [List.take_zero]; exact hmade, hb0⟩
  case round =>
    obtain ⟨k, hk, rfl, hown, hb⟩ := hrel
    by_cases hlt : k < F.length
    · obtain ⟨b, o, rfl, x, q, cq, hcx, _, hx, _, _, _⟩ := (hF.below hb).at hlt
      have HX := Lib.hid hx
      have hown2 := hown.alloc (.cells #[.string x] 9)
      have hin := InS.one wr x
      have hbs := hb.size
      clear hx
      go_wp2_with (at_builtin; refine wpList_appendS rfl _ _ rfl w.heap.size _ _ rfl hown2 _ _ _ _ rfl rfl hin (by simp; omega) (by simp; omega) ?_; intro v1 w1 hown1 hgrow1 _; have hB1 := OwnS.grown (hb.alloc hbs _) (by simp; omega) hown2 hgrow1)
      go_roundw
      case rel => exact ⟨k + 1, by omega, by go_num, by rw [takes hlt, List.map_append, List.map_cons, List.map_nil, ← HX.out]; exact hown1, hB1⟩
      case measure => simp [intOf]; omega
    · obtain rfl : k = F.length := by omega
      go_wp2_with fail
      go_ret
      rw [List.take_length] at hown
      exact ⟨_, rfl, hown, hb⟩
end Go.Proofs.YtnhfnfdmpcpcoaaDoor

/-
  copyInts, CopyFate, step, cut.
-/
namespace Go.Proofs.YtnhfnfdmpcpcoaaDoor
open Go.RowKit Go.Maps

theorem infoI : (Tryd.prog.info? 3).map (fun i => (i.zero, i.size, i.bytes)) = some (some (.int .i64 0), 1, 8) := by kernel_rfl
theorem ints_one (Z : List Int) : ∀ u ∈ Z.map (Value.int .i64), u.oneCell' = true := by
  intro u hu
  obtain ⟨z, _, rfl⟩ := List.mem_map.1 hu
  rfl
theorem ownI_made (w : World) : (w.alloc (.cells #[] 3)).ownsRow w.heap.size 3 1 (.slice (some ⟨w.heap.size, 0, none⟩) 0 0) 0 [] :=
  ⟨rfl, .inr ⟨w.heap.size, 0, #[], rfl, Nat.le_refl _, heap_alloc_new w _, by simp, by unfold maxLen; omega, rfl, rfl⟩⟩
set_option maxRecDepth 100000 in
set_option maxHeartbeats 1000000 in
theorem copyInts_any (Z : List Int) (q : Option Addr) (m d : Nat) (hm : Z.length = m) (hl : m ≤ 17592186043904) (w : World) (h : InV w q (Z.map (Value.int .i64))) :
    Calls Tryd.prog 38 #[.slice q m d] w fun e w' => ∃ p c, e = .returned (.slice p Z.length c) ∧ InV w' p (Z.map (Value.int .i64)) ∧ (∀ a, p = some a → w.heap.size ≤ a.block) ∧ Below w.heap.size w w' := by
  subst hm
  have hmade := ownI_made w
  have hb0 : Below w.heap.size w (w.alloc (.cells #[] 3)) := (Below.refl _ w).alloc (Nat.le_refl _) _
  have hs := srcV (c := d) (e := 3) Tryd.underlying23 (h.below hb0) (ints_one Z)
  rw [List.length_map] at hs
  go_enter Tryd.func38, Tryd.ntmps38
  go_wp2_with (at_builtin; refine wpList_append_way _ rfl _ _ 23 23 rfl w.heap.size 3 (.int .i64 0) 1 8 Tryd.underlying23 infoI rfl _ 0 [] rfl hmade _ Z.length (Z.map (Value.int .i64)) rfl hs (by unfold maxLen; omega) (by omega) (by simp) ?_; intro v1 w1 hown1 hgrow1 _)
  go_ret
  rw [List.nil_append, Nat.zero_add] at hown1
  obtain ⟨p, c, rfl, _, _, hin, hp⟩ := owns_shape hown1
  exact ⟨p, c, rfl, hin, fun a ha => (hp a ha).1, hb0.grown hgrow1 (by simp) (fun k e => by cases e; exact Nat.le_refl _)⟩

set_option maxRecDepth 100000 in
set_option maxHeartbeats 2000000 in
theorem copyFate_any (n : Int) (K : List Int) (q : Option Addr) (m d : Nat) (hm : K.length = m) (hl : m ≤ 17592186043904) (w : World) (h : InV w q (K.map (Value.int .i64))) :
    Calls Tryd.prog 20 #[.agg #[.int .i64 n, .slice q m d]] w fun e w' => ∃ p c, e = .returned (.agg #[.int .i64 n, .slice p K.length c]) ∧ InV w' p (K.map (Value.int .i64)) ∧ (∀ a, p = some a → w.heap.size ≤ a.block) ∧ Below w.heap.size w w' := by
  subst hm
  obtain ⟨wc, hwc⟩ : ∃ W0, W0 = ((w.alloc (.cells #[.int .i64 n, .slice q K.length d] 29)).alloc (.cells #[.int .i64 0, .slice none 0 0] 29)).alloc (.cells #[.int .i64 n, .slice none 0 0] 29) := ⟨_, rfl⟩
  have hbc : Below w.heap.size w wc := by rw [hwc]; exact (((Below.refl _ w).alloc (Nat.le_refl _) _).alloc (by simp) _).alloc (by simp; omega) _
  have hsc : wc.heap.size = w.heap.size + 3 := by rw [hwc]; simp
  have b0 : wc.heap[w.heap.size]? = some (.cells #[.int .i64 n, .slice q K.length d] 29 (0, 0)) := by
    rw [hwc]
    exact (heap_alloc_old _ _ (by simp; omega)).trans ((heap_alloc_old _ _ (by simp)).trans (heap_alloc_new w _))
  have b1 : wc.heap[w.heap.size + 1]? = some (.cells #[.int .i64 0, .slice none 0 0] 29 (0, 0)) := by
    rw [hwc]
    have := heap_alloc_new (w.alloc (.cells #[.int .i64 n, .slice q K.length d] 29)) (.cells #[.int .i64 0, .slice none 0 0] 29)
    rw [World.size_alloc] at this
    exact (heap_alloc_old _ _ (by simp)).trans this
  have b2 : wc.heap[w.heap.size + 2]? = some (.cells #[.int .i64 n, .slice none 0 0] 29 (0, 0)) := by
    rw [hwc]
    have := heap_alloc_new ((w.alloc (.cells #[.int .i64 n, .slice q K.length d] 29)).alloc (.cells #[.int .i64 0, .slice none 0 0] 29)) (.cells #[.int .i64 n, .slice none 0 0] 29)
    rw [World.size_alloc, World.size_alloc] at this
    exact this
  have hs := srcV (c := d) (e := 3) Tryd.underlying23 (h.below hbc) (ints_one K)
  rw [List.length_map] at hs
  have hnil := World.ownsRow_nil wc w.heap.size 3 1
  have HC := Lib.hid (And.intro hbc (And.intro b0 (And.intro b1 (And.intro b2 (And.intro hwc hsc)))))
  rw [hwc] at hs hnil
  clear hbc hsc b0 b1 b2 hwc
  go_enter Tryd.func20, Tryd.ntmps20
  go_wp2_with (
    at_builtin
    refine wpList_append_way _ rfl _ _ 23 23 rfl w.heap.size 3 (.int .i64 0) 1 8 Tryd.underlying23 infoI rfl _ 0 [] rfl hnil _ K.length (K.map (Value.int .i64)) rfl hs (by unfold maxLen; omega) (by omega) (by simp; omega) ?_
    intro v1 w1 hown1 hgrow1 _
    rw [← HC.out.2.2.2.2.1] at hgrow1
    rw [List.nil_append, Nat.zero_add] at hown1
    obtain ⟨hbc, b0, b1, b2, hwc, hsc⟩ := HC.out
    have g1 := (hgrow1.block (w.heap.size + 1) (by omega) (fun e => by cases e)).trans b1
    have g2 := (hgrow1.block (w.heap.size + 2) (by omega) (fun e => by cases e)).trans b2
    have e20 : w1.cell? ⟨w.heap.size + 2, 0, none⟩ = some (.int .i64 n) := by rw [cell_of_row _ _ _ _ _ _ g2]; rfl
    have e21 : w1.cell? ⟨w.heap.size + 2, 1, none⟩ = some (.slice none 0 0) := by rw [cell_of_row _ _ _ _ _ _ g2]; rfl
    have e10 : w1.cell? ⟨w.heap.size + 1, 0, none⟩ = some (.int .i64 0) := by rw [cell_of_row _ _ _ _ _ _ g1]; rfl
    have e11 : w1.cell? ⟨w.heap.size + 1, 1, none⟩ = some (.slice none 0 0) := by rw [cell_of_row _ _ _ _ _ _ g1]; rfl
    have f2 := fun i => frozen_of_row w1 (w.heap.size + 2) i _ _ g2
    have f1 := fun i => frozen_of_row w1 (w.heap.size + 1) i _ _ g1
    have HG := Lib.hid (And.intro hgrow1 hown1)
    obtain ⟨p1, c1, rfl, _, _, _, _⟩ := owns_shape hown1
    clear hgrow1 hown1 hbc b0 b1 b2 hwc hsc g1 g2)
  obtain ⟨hgrow1, hown1⟩ := HG.out
  obtain ⟨hbc, _, _, _, hwc, hsc⟩ := HC.out
  have hb1 : Below w.heap.size w w1 := hbc.grown hgrow1 hbc.size (fun k e => by cases e)
  have hlt := World.ownsRow.lt hown1
  obtain ⟨p2, c2, e, _, _, hin, hp⟩ := owns_shape hown1
  injection e with e _ _
  subst e
  have hI : ∀ (W : World), (∀ g, g ≠ w.heap.size + 1 → g ≠ w.heap.size + 2 → W.heap[g]? = w1.heap[g]?) → InV W p1 (K.map (Value.int .i64)) := fun W hW h0 => by
    obtain ⟨b, o, e, hc⟩ := hin h0
    have hob := (hp ⟨b, o, none⟩ e)
    have hbn : b ≠ w.heap.size + 1 ∧ b ≠ w.heap.size + 2 := by
      subst e
      obtain ⟨cur, hcur⟩ := rowBlk hown1 (g := b) rfl
      exact ⟨blk_ne hcur ((hgrow1.block (w.heap.size + 1) (by omega) (fun e => by cases e)).trans (by assumption)) (by decide), blk_ne hcur ((hgrow1.block (w.heap.size + 2) (by omega) (fun e => by cases e)).trans (by assumption)) (by decide)⟩
    refine ⟨b, o, e, fun i hi => ?_⟩
    have := hc i hi
    simp only [World.cell?, hW b hbn.1 hbn.2]
    exact this
  refine bodyPost_ret (v := .agg #[.int .i64 n, .slice p1 K.length c1]) (by simp [results, Tryd.results20, go_sem, e10, e11]) rfl ⟨_, _, rfl, ?_, fun a ha => (hp a ha).1, ?_⟩
  · refine hI _ fun g h1 h2 => ?_
    exact ((Below.heap_setCell _ _ _ _ h1).trans (Below.heap_setCell _ _ _ _ h1)).trans (Below.heap_setCell _ _ _ _ h2)
  · exact ((hb1.setCell (p := ⟨w.heap.size + 2, 1, none⟩) (by simp) _).setCell (p := ⟨w.heap.size + 1, 0, none⟩) (by simp) _).setCell (p := ⟨w.heap.size + 1, 1, none⟩) (by simp) _

/-- the op as it is meant -/
def stepI (wh : Int) : Int := if wh < 1 ∨ 6 < wh then 6 else wh
theorem opOf_step (wh : Int) (a b d : BS) : opOf (stepI wh) a b d = opOf wh a b d := by
  unfold stepI
  split
  · rename_i h
    unfold opOf
    have h1 : ¬ wh = 1 := by omega
    have h2 : ¬ wh = 2 := by omega
    have h3 : ¬ wh = 3 := by omega
    have h4 : ¬ wh = 4 := by omega
    have h5 : ¬ wh = 5 := by omega
    rw [if_neg h1, if_neg h2, if_neg h3, if_neg h4, if_neg h5]
    rfl
  · rfl
set_option maxRecDepth 100000 in
set_option maxHeartbeats 2000000 in
theorem step_any (wh : Int) (na nb : ByteArray) (v : Value) (q : Option Addr) (m c : Nat) (hv : v = .slice q m c) (w : World) :
    Calls Tryd.prog 24 #[.agg #[.int .i64 wh, .string na, .string nb, v]] w fun e w' => e = .returned (.agg #[.int .i64 (stepI wh), .string na, .string nb, v]) ∧ Below w.heap.size w w' := by
  subst hv
  by_cases h : wh < 1
  · have e1 : decide (wh < 1) = true := decide_eq_true h
    have e : stepI wh = 6 := by unfold stepI; rw [if_pos (by omega)]
    rw [e]
    clear e h
    go_enter Tryd.func24, Tryd.ntmps24
    go_wp2_with fail
    refine bodyPost_ret (v := .agg #[.int .i64 6, .string na, .string nb, .slice q m c]) (by simp [results, Tryd.results24, go_sem]) rfl ⟨rfl, ?_⟩
    exact ((Below.refl _ w).alloc (Nat.le_refl _) _).alloc (by simp) _
  · have e1 : decide (wh < 1) = false := decide_eq_false h
    by_cases h6 : 6 < wh
    · have e2 : decide (6 < wh) = true := decide_eq_true h6
      have e : stepI wh = 6 := by unfold stepI; rw [if_pos (by omega)]
      rw [e]
      clear e h h6
      go_enter Tryd.func24, Tryd.ntmps24
      go_wp2_with fail
      refine bodyPost_ret (v := .agg #[.int .i64 6, .string na, .string nb, .slice q m c]) (by simp [results, Tryd.results24, go_sem]) rfl ⟨rfl, ?_⟩
      exact ((Below.refl _ w).alloc (Nat.le_refl _) _).alloc (by simp) _
    · have e2 : decide (6 < wh) = false := decide_eq_false h6
      have e : stepI wh = wh := by unfold stepI; rw [if_neg (by omega)]
      rw [e]
      clear e h h6
      go_enter Tryd.func24, Tryd.ntmps24
      go_wp2_with fail
      refine bodyPost_ret (v := .agg #[.int .i64 wh, .string na, .string nb, .slice q m c]) (by simp [results, Tryd.results24, go_sem]) rfl ⟨rfl, ?_⟩
      exact ((Below.refl _ w).alloc (Nat.le_refl _) _).alloc (by simp) _
set_option maxRecDepth 100000 in
set_option maxHeartbeats 2000000 in
theorem cut_any (L : List OpT) (p : Option Addr) (n c : Nat) (hn : L.length = n) (hc : n ≤ c) (w : World) :
    Calls Tryd.prog 23 #[.slice p n c] w fun e w' => ∃ c', e = .returned (.slice p (L.take 300).length c') ∧ Below w.heap.size w w' := by
  subst hn
  by_cases h : 300 < L.length
  · have e : (L.take 300).length = 300 := by rw [List.length_take]; omega
    rw [e]
    have hI : (300 : Int) < (L.length : Int) := by omega
    have hI2 : (300 : Int) ≤ (c : Int) := by omega
    go_enter Tryd.func23, Tryd.ntmps23
    go_wp2_with fail
    go_ret
    first | exact ⟨_, rfl, Below.refl _ _⟩ | exact ⟨⟨_, rfl⟩, Below.refl _ _⟩ | exact Below.refl _ _
  · have e : (L.take 300).length = L.length := by rw [List.length_take]; omega
    rw [e]
    have hI : ¬ (300 : Int) < (L.length : Int) := by omega
    go_enter Tryd.func23, Tryd.ntmps23
    go_wp2_with fail
    go_ret
    first | exact ⟨_, rfl, Below.refl _ _⟩ | exact ⟨⟨_, rfl⟩, Below.refl _ _⟩ | exact Below.refl _ _
end Go.Proofs.YtnhfnfdmpcpcoaaDoor

/-
  begin: a disk of copies.
-/
namespace Go.Proofs.YtnhfnfdmpcpcoaaDoor
open Go.RowKit Go.Maps

def NewPost (w : World) (F : List FT) (room : Int) (Z : List Int) (power : Int) : Ending → World → Prop := fun e w' =>
  (newE F room ≠ 0 ∧ e = .returned (.tuple #[.pointer none, .int .i64 (newE F room)]) ∨ newE F room = 0 ∧ ∃ dd P, e = .returned (.tuple #[.pointer (some ⟨dd, 0, none⟩), .int .i64 0]) ∧ DiskP w' P dd (newP F room Z power) ∧ ∀ g, P g → w.heap.size ≤ g) ∧ Below w.heap.size w w'
theorem NewPost.from {w wa : World} {F : List FT} {room : Int} {Z : List Int} {power : Int} {e : Ending} {w' : World} (hb : Below w.heap.size w wa) (h : NewPost wa F room Z power e w') : NewPost w F room Z power e w' := by
  obtain ⟨h1, h2⟩ := h
  refine ⟨?_, hb.trans (h2.mono hb.size)⟩
  rcases h1 with h1 | ⟨h3, dd, P, h4, h5, h6⟩
  · exact .inl h1
  · exact .inr ⟨h3, dd, P, h4, h5, fun g hg => Nat.le_trans hb.size (h6 g hg)⟩

set_option maxRecDepth 100000 in
set_option maxHeartbeats 4000000 in
theorem begin_c (F : List FT) (p : Option Addr) (n c : Nat) (hn : F.length = n) (room : Int) (Z : List Int) (q : Option Addr) (m d : Nat) (hm : Z.length = m) (power : Int) (w : World) (hF : InFs w p F) (hZ : InV w q (Z.map (Value.int .i64))) (hFl : F.length ≤ 3518437208780) (hFn : ∀ f ∈ F, f.1.length ≤ 140737488351232 ∧ f.2.length ≤ 140737488351232) (hZl : Z.length ≤ 4000000000000) :
    Calls Tryd.prog 11 #[.agg #[.slice p n c, .int .i64 room, .slice q m d, .int .i64 power]] w (NewPost w F room Z power) := by
  subst hn
  subst hm
  obtain ⟨wa, hwa⟩ : ∃ W0, W0 = w.alloc (.cells #[.slice p F.length c, .int .i64 room, .slice q Z.length d, .int .i64 power] 25) := ⟨_, rfl⟩
  have hba : Below w.heap.size w wa := by rw [hwa]; exact (Below.refl _ w).alloc (Nat.le_refl _) _
  have hsa : w.heap.size < wa.heap.size := by rw [hwa]; simp
  have hbox : wa.heap[w.heap.size]? = some (.cells #[.slice p F.length c, .int .i64 room, .slice q Z.length d, .int .i64 power] 25 (0, 0)) := by rw [hwa]; exact heap_alloc_new w _
  have C4 : ∀ W : World, W.heap[w.heap.size]? = wa.heap[w.heap.size]? → W.cell? ⟨w.heap.size, 0, none⟩ = some (.slice p F.length c) ∧ W.cell? ⟨w.heap.size, 1, none⟩ = some (.int .i64 room) ∧ W.cell? ⟨w.heap.size, 2, none⟩ = some (.slice q Z.length d) ∧ W.cell? ⟨w.heap.size, 3, none⟩ = some (.int .i64 power) := fun W hb =>
    ⟨by rw [cell_of_row _ _ _ _ _ _ (hb.trans hbox)]; rfl, by rw [cell_of_row _ _ _ _ _ _ (hb.trans hbox)]; rfl, by rw [cell_of_row _ _ _ _ _ _ (hb.trans hbox)]; rfl, by rw [cell_of_row _ _ _ _ _ _ (hb.trans hbox)]; rfl⟩
  obtain ⟨S, hS⟩ : ∃ S : World → Prop, S = fun W => W.cell? ⟨w.heap.size, 0, none⟩ = some (.slice p F.length c) ∧ W.cell? ⟨w.heap.size, 1, none⟩ = some (.int .i64 room) ∧ W.cell? ⟨w.heap.size, 2, none⟩ = some (.slice q Z.length d) ∧ W.cell? ⟨w.heap.size, 3, none⟩ = some (.int .i64 power) := ⟨_, rfl⟩
  have HSS := Lib.hid (fun W => show S W ↔ W.cell? ⟨w.heap.size, 0, none⟩ = some (.slice p F.length c) ∧ W.cell? ⟨w.heap.size, 1, none⟩ = some (.int .i64 room) ∧ W.cell? ⟨w.heap.size, 2, none⟩ = some (.slice q Z.length d) ∧ W.cell? ⟨w.heap.size, 3, none⟩ = some (.int .i64 power) by rw [hS])
  have step : ∀ W, Below wa.heap.size wa W → S W := fun W hb => by rw [hS]; exact C4 W (hb.block _ hsa)
  have HK0 := Lib.hid (step wa.drew (Below.refl _ wa).drew)
  have HCF := Lib.hid (show Calls Tryd.prog 35 #[.slice p F.length c] wa.drew fun e w1 => ∃ p1 c1, e = .returned (.slice p1 F.length c1) ∧ S w1 ∧ Calls Tryd.prog 38 #[.slice q Z.length d] w1 fun e w2 => ∃ q2 c2, e = .returned (.slice q2 Z.length c2) ∧ S w2 ∧ Calls Tryd.prog 34 #[.slice p1 F.length c1, .int .i64 room, .slice q2 Z.length c2, .int .i64 power] w2 fun e w3 => ∃ x y, e = .returned (.tuple #[.pointer x, .int .i64 y]) ∧ NewPost w F room Z power (.returned (.tuple #[.pointer x, .int .i64 y])) w3 ∧ S w3 from
    (copyFiles_any F p _ c rfl (by omega) (fun f hf => (hFn f hf).2) wa.drew ((hF.below hba).below (Below.refl _ wa).drew)).mono fun _ w1 ⟨v, h1, h2, h3⟩ => by
      obtain ⟨p1, c1, rfl, _, _, hin1, _⟩ := h2.shape rfl
      have hb1 : Below wa.heap.size wa w1 := ((Below.refl _ wa).drew).trans h3
      have hB1 := hba.trans (hb1.mono hba.size)
      refine ⟨p1, c1, h1, step _ hb1, (copyInts_any Z q _ d rfl (by omega) w1 (hZ.below hB1)).mono fun _ w2 ⟨q2, c2, g1, g2, _, g3⟩ => ?_⟩
      have hb2 := hb1.trans (g3.mono hb1.size)
      have hB2 := hba.trans (hb2.mono hba.size)
      refine ⟨q2, c2, g1, step _ hb2, (new_p F p1 _ c1 rfl room Z q2 _ c2 rfl power w2 (hin1.below g3) g2 (by omega) hFn (by omega)).mono fun e w3 hp => ?_⟩
      have hb3 := hb2.trans (hp.2.mono hb2.size)
      have hq := NewPost.from hB2 hp
      rcases hp.1 with ⟨_, he⟩ | ⟨_, dd, P, he, _⟩
      · exact ⟨_, _, he, by rw [← he]; exact hq, step _ hb3⟩
      · exact ⟨_, _, he, by rw [← he]; exact hq, step _ hb3⟩)
  clear hS step C4 hbox hba hsa
  rw [hwa] at HCF HK0
  clear hwa
  go_enter Tryd.func11, Tryd.ntmps11
  go_wp2_with fail
  go_region_held3 (fun W => W.cell? ⟨w.heap.size, 0, none⟩ = some (.slice p F.length c) ∧ W.cell? ⟨w.heap.size, 1, none⟩ = some (.int .i64 room) ∧ W.cell? ⟨w.heap.size, 2, none⟩ = some (.slice q Z.length d) ∧ W.cell? ⟨w.heap.size, 3, none⟩ = some (.int .i64 power))
    (first | (with_reducible exact (HSS.out _).1 HK0.out) | (with_reducible exact (HSS.out _).1 HK1.out) | (with_reducible exact (HSS.out _).1 HK2.out) | (with_reducible exact (HSS.out _).1 HK3.out))
    (first
      | (go_at_call 35; with_reducible refine HCF.out.mono ?_; rintro e w4 ⟨p1, c1, rfl, hk1, hci⟩; have HK1 := Lib.hid hk1; have HCI := Lib.hid hci; clear hk1 hci)
      | (go_at_call 38; with_reducible refine HCI.out.mono ?_; rintro e w5 ⟨q2, c2, rfl, hk2, hcn⟩; have HK2 := Lib.hid hk2; have HCN := Lib.hid hcn; clear hk2 hcn)
      | (go_at_call 34; with_reducible refine HCN.out.mono ?_; rintro e w6 ⟨x, y, rfl, hp, hk3⟩; have HK3 := Lib.hid hk3; have HP := Lib.hid hp; clear hk3 hp))
  all_goals
    go_wp2_with fail
    go_ret2
    exact HP.out
end Go.Proofs.YtnhfnfdmpcpcoaaDoor
