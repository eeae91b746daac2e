/-
  Chapter 9, texts merged: Alive9, Run9, UsedP, ReadD, ReadP, RefRow9, RefRead9, RefNamed9, RefUsed9, RefRen9, RefFr9, RefStepC.
-/
import Derived.Test.YtnhfnfdmpcpcoaaDoorN9e
import Derived.Test.YtnhfnfdmpcpcoaaDoorN9d
import Derived.Laws.Cover1

/-
  alive, of chapter 09: calls whose answers the document fixes.
-/
namespace Go.Proofs.YtnhfnfdmpcpcoaaDoor
open Go.RowKit Go.Maps

/-- a disk that lies at or behind B, all below B as it was in w0 -/
def DP (w0 : World) (dd : Nat) (A : Pl) (W : World) : Prop := ∃ P, DiskP W P dd A ∧ (∀ g, P g → w0.heap.size ≤ g) ∧ Below w0.heap.size w0 W
theorem DP.step {w0 W w' : World} {dd : Nat} {A : Pl} {P : Nat → Prop} {o : Opp} {e : Ending} (hb : Below w0.heap.size w0 W) (hP : ∀ g, P g → w0.heap.size ≤ g) (h : StepPost W P dd A o e w') : DP w0 dd (doP A o).1 w' := by
  obtain ⟨_, ⟨P', h2, h3⟩, h4⟩ := h
  refine ⟨P', h2, fun g hg => ?_, ?_⟩
  · rcases h3 g hg with h | h
    · exact hP g h
    · exact Nat.le_trans hb.size h
  · exact ⟨h4.os.trans hb.os, h4.tape.trans hb.tape, h4.output.trans hb.output, Nat.le_trans hb.size h4.size, fun k hk => (h4.block k (Nat.lt_of_lt_of_le hk hb.size) (fun e => by have := hP k e; omega)).trans (hb.block k hk)⟩
theorem DP.below {w0 W w' : World} {dd : Nat} {A : Pl} (h : DP w0 dd A W) (hb : Below W.heap.size W w') : DP w0 dd A w' := by
  obtain ⟨P, h1, h2, h3⟩ := h
  exact ⟨P, h1.below hb, h2, h3.trans (hb.mono h3.size)⟩
def al0 : Pl := newP [] 9 [3] 4
def al1 : Pl := ⟨[([97], 0)], [], [.put [97] 0], [([], 0)], 9, [3], 4, 1⟩
def al2 : Pl := ⟨[([97], 0)], [], [.put [97] 0], [([120, 121], 0)], 9, [3], 4, 2⟩
def al3 : Pl := ⟨[([97], 0)], [], [.put [97] 0], [([120, 121], 0)], 9, [3], 4, 3⟩
def al4 : Pl := ⟨[([97], 0)], [([97], 0)], [], [([120, 121], 0)], 9, [3], 4, 4⟩
theorem al_1 : doP al0 (.create [97]) = (al1, 0) := by kernel_rfl
theorem al_2 : doP al1 (.append [97] [120, 121]) = (al2, 0) := by kernel_rfl
theorem al_3 : doP al2 (.sync [97]) = (al3, 94) := by kernel_rfl
theorem al_4 : doP al3 .names = (al4, 0) := by kernel_rfl
theorem al_5 : doP al4 (.sync [97]) = (al4, 93) := by kernel_rfl
theorem al_6 : downP al4 = true := by kernel_rfl
theorem al_7 : leftP al4 0 [] = [([97], [])] := by kernel_rfl
theorem al_f0 : FitP al0 := ⟨by decide, by decide, by decide, by decide, by decide, by decide, by decide, by decide⟩
theorem al_f1 : FitP al1 := ⟨by decide, by decide, by decide, by decide, by decide, by decide, by decide, by decide⟩
theorem al_f2 : FitP al2 := ⟨by decide, by decide, by decide, by decide, by decide, by decide, by decide, by decide⟩
theorem al_f3 : FitP al3 := ⟨by decide, by decide, by decide, by decide, by decide, by decide, by decide, by decide⟩
theorem al_f4 : FitP al4 := ⟨by decide, by decide, by decide, by decide, by decide, by decide, by decide, by decide⟩
theorem al_i4 : Inv al4 := by
  have n1 : ∀ x ∈ ([([97], 0)] : NM), x = ([97], 0) := fun x hx => List.mem_singleton.1 hx
  have g1 : badN [97] = false := by kernel_rfl
  refine ⟨List.pairwise_singleton _ _, List.pairwise_singleton _ _, rfl, fun x hx => ?_, fun x hx => ?_, (fun c hc => by cases hc), fun x hx => ?_, by decide, fun x hx => ?_⟩
  · rw [n1 x hx]; exact g1
  · rw [n1 x hx]; exact g1
  · rw [n1 x hx]; decide
  · have hx : x ∈ ([([120, 121], 0)] : List (BS × Nat)) := hx
    rw [List.mem_singleton.1 hx]; decide
theorem al_new : newE [] 9 = 0 := by
  unfold newE
  rw [if_neg (by omega), if_pos ⟨(fun f hf => by cases hf), List.Pairwise.nil⟩]

set_option maxRecDepth 100000 in
set_option maxHeartbeats 8000000 in
theorem alive9_any (w : World) : Calls Tryd.prog 10 #[] w fun e w' => e = .returned (.bool true) ∧ Below w.heap.size w w' := by
  have hb0 : Below w.heap.size w (w.alloc (.cells #[.int .i64 3] 3)) := (Below.refl _ w).alloc (Nat.le_refl _) _
  have hnew := new_p [] none 0 0 rfl 9 [3] (some ⟨w.heap.size, 0, none⟩) 1 1 rfl 4 (w.alloc (.cells #[.int .i64 3] 3)) (InFs.nil _ _) (InV.lit w _ #[.int .i64 3] _ (0, 0) rfl) (by decide) (fun f hf => by cases hf) (by decide)
  rw [al_new] at hnew
  have HB0 := Lib.hid hb0
  clear hb0
  go_enter Tryd.func10, Tryd.ntmps10
  go_wp2_with fail
  refine hnew.mono ?_
  rintro e w1 ⟨⟨h0, _⟩ | ⟨_, dd, P, rfl, hd, hP⟩, hb1⟩
  · exact absurd rfl h0
  clear hnew
  have hD0 : DP w dd al0 w1 := ⟨P, hd, fun g hg => Nat.le_trans HB0.out.size (hP g hg), HB0.out.trans (hb1.mono HB0.out.size)⟩
  have HD0 := Lib.hid hD0
  clear hd hP hD0
  have HC1 := Lib.hid (fun W (h : DP w dd al0 W) => show Calls Tryd.prog 12 #[.pointer (some ⟨dd, 0, none⟩), .string ⟨#[97]⟩] W fun e w' => e = .returned (.int .i64 0) ∧ DP w dd al1 w' from by
    obtain ⟨P, h1, h2, h3⟩ := h
    refine (create_p h1 ⟨#[97]⟩ (by decide) al_f0).mono fun e w' hp => ⟨?_, ?_⟩
    · have := hp.1; rw [show (⟨#[97]⟩ : ByteArray).data.toList = [97] from rfl, al_1] at this; exact this
    · have := DP.step h3 h2 hp; rw [show (⟨#[97]⟩ : ByteArray).data.toList = [97] from rfl, al_1] at this; exact this)
  have HC2 := Lib.hid (fun W (h : DP w dd al1 W) => show Calls Tryd.prog 13 #[.pointer (some ⟨dd, 0, none⟩), .string ⟨#[97]⟩, .slice (some ⟨W.heap.size, 0, none⟩) 2 2] (W.alloc (.cells #[.int .u8 120, .int .u8 121] 5 (2, 3))) fun e w' => e = .returned (.int .i64 0) ∧ DP w dd al2 w' from by
    obtain ⟨P, h1, h2, h3⟩ := h
    have hb : Below W.heap.size W (W.alloc (.cells #[.int .u8 120, .int .u8 121] 5 (2, 3))) := (Below.refl _ W).alloc (Nat.le_refl _) _
    refine (append_p (h1.below hb) ⟨#[97]⟩ (by decide) [120, 121] (some ⟨W.heap.size, 0, none⟩) 2 2 rfl (by decide) (In8.lit W [120, 121] #[.int .u8 120, .int .u8 121] (2, 3) rfl) al_f1).mono fun e w' hp => ⟨?_, ?_⟩
    · have := hp.1; rw [show (⟨#[97]⟩ : ByteArray).data.toList = [97] from rfl, al_2] at this; exact this
    · have := DP.step (h3.trans (hb.mono h3.size)) h2 hp; rw [show (⟨#[97]⟩ : ByteArray).data.toList = [97] from rfl, al_2] at this; exact this)
  have HC3 := Lib.hid (fun W (h : DP w dd al2 W) => show Calls Tryd.prog 15 #[.pointer (some ⟨dd, 0, none⟩), .string ⟨#[97]⟩] W fun e w' => e = .returned (.int .i64 94) ∧ DP w dd al3 w' from by
    obtain ⟨P, h1, h2, h3⟩ := h
    refine (sync_p h1 ⟨#[97]⟩ (by decide) al_f2).mono fun e w' hp => ⟨?_, ?_⟩
    · have := hp.1; rw [show (⟨#[97]⟩ : ByteArray).data.toList = [97] from rfl, al_3] at this; exact this
    · have := DP.step h3 h2 hp; rw [show (⟨#[97]⟩ : ByteArray).data.toList = [97] from rfl, al_3] at this; exact this)
  have HC4 := Lib.hid (fun W (h : DP w dd al3 W) => show Calls Tryd.prog 16 #[.pointer (some ⟨dd, 0, none⟩)] W fun e w' => e = .returned (.int .i64 0) ∧ DP w dd al4 w' from by
    obtain ⟨P, h1, h2, h3⟩ := h
    refine (names_p h1 al_f3).mono fun e w' hp => ⟨?_, ?_⟩
    · have := hp.1; rw [al_4] at this; exact this
    · have := DP.step h3 h2 hp; rw [al_4] at this; exact this)
  have HC5 := Lib.hid (fun W (h : DP w dd al4 W) => show Calls Tryd.prog 15 #[.pointer (some ⟨dd, 0, none⟩), .string ⟨#[97]⟩] W fun e w' => e = .returned (.int .i64 93) ∧ DP w dd al4 w' from by
    obtain ⟨P, h1, h2, h3⟩ := h
    refine (sync_p h1 ⟨#[97]⟩ (by decide) al_f4).mono fun e w' hp => ⟨?_, ?_⟩
    · have := hp.1; rw [show (⟨#[97]⟩ : ByteArray).data.toList = [97] from rfl, al_5] at this; exact this
    · have := DP.step h3 h2 hp; rw [show (⟨#[97]⟩ : ByteArray).data.toList = [97] from rfl, al_5] at this; exact this)
  have HC6 := Lib.hid (fun W (h : DP w dd al4 W) => show Calls Tryd.prog 33 #[.pointer (some ⟨dd, 0, none⟩)] W fun e w' => e = .returned (.bool true) ∧ DP w dd al4 w' from by
    have h' := h
    obtain ⟨P, ⟨S, h1, he⟩, h2, h3⟩ := h
    refine (down_any h1).mono fun e w' hp => ⟨?_, h'.below hp.2⟩
    rw [hp.1, ← abs_down, he, al_6])
  have HC7 := Lib.hid (fun W (h : DP w dd al4 W) => show Calls Tryd.prog 19 #[.pointer (some ⟨dd, 0, none⟩), .agg #[.int .i64 0, .slice none 0 0]] W fun e w' => ∃ p c, e = .returned (.slice p 1 c) ∧ Below w.heap.size w w' from by
    obtain ⟨P, h1, h2, h3⟩ := h
    refine (left_p h1 0 [] none 0 (fun h => absurd h (by simp)) al_i4 (by decide) (by decide) (fun f hf => by
      have hf : f ∈ ([([120, 121], 0)] : List (BS × Nat)) := hf
      rw [List.mem_singleton.1 hf]; decide)).mono fun e w' hp => ?_
    obtain ⟨v, rfl, hown, hb⟩ := hp
    rw [al_7] at hown
    obtain ⟨p, c, rfl, _⟩ := hown.shape (n := 1) rfl
    exact ⟨p, c, rfl, h3.trans (hb.mono h3.size)⟩)
  have kc := fun (w : World) (C : Array Value) (n c : Nat) => Lib.run_convert_bytes_const (P := Tryd.prog) w 26 5 C n c Tryd.underlying26 Tryd.underlying5
  go_wp2_with fail
  refine (HC1.out _ HD0.out).mono ?_
  rintro e w2 ⟨rfl, hd⟩
  have HD1 := Lib.hid hd
  clear hd
  go_wp2_with fail
  refine (HC2.out _ HD1.out).mono ?_
  rintro e w3 ⟨rfl, hd⟩
  have HD2 := Lib.hid hd
  clear hd kc
  go_wp2_with fail
  refine (HC3.out _ HD2.out).mono ?_
  rintro e w4 ⟨rfl, hd⟩
  have HD3 := Lib.hid hd
  clear hd
  go_wp2_with fail
  refine (HC4.out _ HD3.out).mono ?_
  rintro e w5 ⟨rfl, hd⟩
  have HD4 := Lib.hid hd
  clear hd
  go_wp2_with fail
  refine (HC5.out _ HD4.out).mono ?_
  rintro e w6 ⟨rfl, hd⟩
  have HD5 := Lib.hid hd
  clear hd
  go_wp2_with fail
  refine (HC6.out _ HD5.out).mono ?_
  rintro e w7 ⟨rfl, hd⟩
  have HD6 := Lib.hid hd
  clear hd
  go_wp2_with fail
  refine (HC7.out _ HD6.out).mono ?_
  rintro e w8 ⟨p8, c8, rfl, hb8⟩
  have HB8 := Lib.hid hb8
  clear hb8
  go_wp2_with fail
  go_ret
  exact ⟨rfl, HB8.out⟩
end Go.Proofs.YtnhfnfdmpcpcoaaDoor

/-
  What every disk of a script keeps; the steps of a script, Left, in the words of the laws.
-/
namespace Go.Proofs.YtnhfnfdmpcpcoaaDoor
open Go.RowKit Go.Maps

/-- what every disk of a script keeps -/
structure GoodA (n : Nat) (A : Pl) : Prop where
  inv : Inv A
  fit : FitN A n
  dat : DatN A
theorem GoodA.step {n : Nat} {A : Pl} (h : GoodA n A) (o : Opp) : GoodA (n + 1) (doP A o).1 := ⟨inv_do h.inv o, fit_do h.inv h.fit o, dat_do h.dat h.fit.room o⟩
theorem GoodA.new {F : List FT} {room : Int} {Z : List Int} (power : Int) (hE : newE F room = 0) (hk : bulkFs F + Z.length ≤ 1048576) : GoodA 0 (newP F room Z power) := by
  obtain ⟨h1, h2, h3⟩ := newE_zero hE
  have hs := bulkFs_sum F
  have hl := bulkFs_length F
  refine ⟨inv_new h1 _ _ _, fit_new power h3 (by omega) (Nat.le_trans hs (by omega)) (by omega), fun f hf => ?_⟩
  obtain ⟨x, hx, e⟩ := List.mem_map.1 hf
  have := bulkFs_mem F x hx
  rw [← e]
  show x.2.length ≤ _
  omega
theorem GoodA.fitP {n : Nat} {A : Pl} (h : GoodA n A) (hn : n ≤ 1000000) : FitP A := h.fit.fit hn
/-- a disk behind a script -/
def runA (A : Pl) (L : List OpT) : Pl := L.foldl (fun A x => (doP A (opOf x.1 x.2.1 x.2.2.1 x.2.2.2)).1) A
theorem runA_snoc (A : Pl) {L : List OpT} {k : Nat} (h : k < L.length) : runA A (L.take (k + 1)) = (doP (runA A (L.take k)) (opOf L[k].1 L[k].2.1 L[k].2.2.1 L[k].2.2.2)).1 := by
  unfold runA
  rw [List.take_succ_eq_append_getElem h, List.foldl_append]
  rfl
theorem GoodA.run {A : Pl} (h : GoodA 0 A) (L : List OpT) : ∀ k, k ≤ L.length → GoodA k (runA A (L.take k))
  | 0, _ => by simpa [runA] using h
  | k + 1, hk => by
    rw [runA_snoc A (by omega)]
    exact (GoodA.run h L k (by omega)).step _

theorem left_bounds {n : Nat} {A : Pl} (h : GoodA n A) (hn : n ≤ 1000000) (k : Int) (keep : List Int) : (leftP A k keep).length ≤ 3600000000000 ∧ ∀ f ∈ leftP A k keep, f.1.length ≤ 140737488351232 ∧ f.2.length ≤ 140737488351232 := by
  refine ⟨?_, fun f hf => ?_⟩
  · unfold leftP leftNP
    rw [List.length_map]
    have h1 := fold_length (A.pend.take k.toNat) A.safe
    have h2 := h.fit.safe
    have h3 := h.fit.pend
    rw [List.length_take] at h1
    omega
  · obtain ⟨x, hx, e⟩ := List.mem_map.1 hf
    have hg := good_len (leftN_good h.inv k x hx)
    rw [← e]
    refine ⟨by show x.1.length ≤ _; omega, ?_⟩
    show (leftDP A keep x.2).length ≤ _
    unfold leftDP
    rw [List.length_take]
    unfold datP
    cases hx2 : A.files[x.2]? with
    | none => simp
    | some y =>
      have := h.dat y (List.mem_of_getElem? hx2)
      simp only [Option.map_some, Option.getD_some]
      omega
theorem left_dp {n : Nat} {w0 W : World} {dd : Nat} {A : Pl} (h : DP w0 dd A W) (hA : GoodA n A) (hn : n ≤ 1000000) (k : Int) (K : List Int) (kp : Option Addr) (m kc : Nat) (hm : K.length = m) (hK : InV W kp (K.map (Value.int .i64))) :
    Calls Tryd.prog 19 #[.pointer (some ⟨dd, 0, none⟩), .agg #[.int .i64 k, .slice kp m kc]] W fun e w' => ∃ p c, e = .returned (.slice p (leftP A k K).length c) ∧ OwnFs w' W.heap.size (.slice p (leftP A k K).length c) (leftP A k K) ∧ InFs w' p (leftP A k K) ∧ Below W.heap.size W w' := by
  subst hm
  obtain ⟨P, h1, h2, h3⟩ := h
  refine (left_p h1 k K kp kc hK hA.inv (hA.fitP hn).pend (hA.fitP hn).safe hA.dat).mono fun e w' hp => ?_
  obtain ⟨v, rfl, hown, hb⟩ := hp
  obtain ⟨p, c, rfl, _, _, hin, _⟩ := hown.shape rfl
  exact ⟨p, c, rfl, hown, hin, hb⟩
theorem do_dp {w0 W : World} {dd : Nat} {A : Pl} (h : DP w0 dd A W) (wh : Int) (na nb : ByteArray) (l : BS) (q : Option Addr) (m c : Nat) (hm : l.length = m) (hs : na.data.toList.length + nb.data.toList.length + l.length ≤ 1048576) (hin : In8 W q l) (hfit : FitP A) :
    Calls Tryd.prog 25 #[.pointer (some ⟨dd, 0, none⟩), .agg #[.int .i64 (stepI wh), .string na, .string nb, .slice q m c]] W fun e w' => ∃ z, e = .returned (.int .i64 z) ∧ z = (doP A (opOf wh na.data.toList nb.data.toList l)).2 ∧ DP w0 dd (doP A (opOf wh na.data.toList nb.data.toList l)).1 w' := by
  obtain ⟨P, h1, h2, h3⟩ := h
  rw [size_list, size_list] at hs
  have := do_any h1 (stepI wh) na nb l q m c hm (by omega) (by omega) (by omega) hin hfit
  rw [opOf_step] at this
  exact this.mono fun e w' hp => ⟨_, hp.1, rfl, DP.step h3 h2 hp⟩

end Go.Proofs.YtnhfnfdmpcpcoaaDoor

/-
  Used, List, Down of a disk, in the words of the laws; the sizes of boxes.
-/
namespace Go.Proofs.YtnhfnfdmpcpcoaaDoor
open Go.RowKit Go.Maps

theorem used_dp {n : Nat} {w0 W : World} {dd : Nat} {A : Pl} (h : DP w0 dd A W) (hA : GoodA n A) (hn : n ≤ 1000000) :
    Calls Tryd.prog 32 #[.pointer (some ⟨dd, 0, none⟩)] W fun e w' => e = .returned (.int .i64 (usedP A)) ∧ Below W.heap.size W w' := by
  obtain ⟨P, ⟨S, h1, he⟩, h2, h3⟩ := h
  have hu : usedP A = usedS S := by rw [← he, abs_used h1.nowF]
  rw [hu]
  exact used_any h1 (by rw [← hu]; have := (hA.fitP hn).used; omega)
theorem down_dp {w0 W : World} {dd : Nat} {A : Pl} (h : DP w0 dd A W) :
    Calls Tryd.prog 33 #[.pointer (some ⟨dd, 0, none⟩)] W fun e w' => e = .returned (.bool (downP A)) ∧ Below W.heap.size W w' := by
  obtain ⟨P, ⟨S, h1, he⟩, h2, h3⟩ := h
  rw [← he, abs_down]
  exact down_any h1
theorem list_dp {n : Nat} {w0 W : World} {dd : Nat} {A : Pl} (h : DP w0 dd A W) (hA : GoodA n A) (hn : n ≤ 1000000) :
    Calls Tryd.prog 30 #[.pointer (some ⟨dd, 0, none⟩)] W fun e w' => ∃ p c, e = .returned (.slice p (listP A).length c) ∧ OwnS w' W.heap.size (.slice p (listP A).length c) (listP A) ∧ InS w' p (listP A) ∧ Below W.heap.size W w' := by
  obtain ⟨P, h1, h2, h3⟩ := h
  refine (list_p h1 (hA.fitP hn).now).mono fun e w' hp => ?_
  obtain ⟨v, rfl, hown, hb⟩ := hp
  have hown2 := hown
  obtain ⟨p, c, rfl, _, _, hin, _⟩ := hown.shape rfl
  exact ⟨p, c, rfl, hown2, hin, hb⟩
theorem usedP_tick (A : Pl) : usedP (tickP A) = usedP A := by
  have ht := tick_rest A
  rw [usedP_eq, usedP_eq, ht.1, ht.2.2.1]
theorem down_tick (A : Pl) (h : downP (tickP A) = false) : downP A = false := by
  unfold tickP at h
  split at h
  · exact h
  · rename_i h1; simpa using h1
theorem listP_tick (A : Pl) (h : downP (tickP A) = false) : listP (tickP A) = listP A := by
  unfold listP
  rw [h, down_tick A h, (tick_rest A).1]
theorem leftP_tick (A : Pl) (n : Int) (K : List Int) : leftP (tickP A) n K = leftP A n K := by
  have ht := tick_rest A
  unfold leftP leftNP leftDP datP firmP
  rw [ht.2.1, ht.2.2.1, ht.2.2.2.1]
/-- what is owned behind a disk stays where the disk alone turns -/
theorem ownS_only {P : Nat → Prop} {w w' : World} {base : Nat} {v : Value} {L : List BS} (h : OwnS w base v L) (ho : Only P w w') (hP : ∀ g, P g → g < base) : OwnS w' base v L := by
  refine ⟨h.1, ?_⟩
  rcases h.2 with h0 | ⟨g, cap, cur, e, c1, c2, r⟩
  · exact .inl h0
  · exact .inr ⟨g, cap, cur, e, c1, (ho.block g (lt_of_heap c2) (fun e2 => by have := hP g e2; omega)).trans c2, r⟩
theorem own8_only {P : Nat → Prop} {w w' : World} {base : Nat} {v : Value} {L : BS} (h : Own8 w base v L) (ho : Only P w w') (hP : ∀ g, P g → g < base) : Own8 w' base v L := by
  refine ⟨h.1, ?_⟩
  rcases h.2 with h0 | ⟨g, cap, cur, e, c1, c2, r⟩
  · exact .inl h0
  · exact .inr ⟨g, cap, cur, e, c1, (ho.block g (lt_of_heap c2) (fun e2 => by have := hP g e2; omega)).trans c2, r⟩
theorem ownFs_only {P : Nat → Prop} {w w' : World} {base : Nat} {v : Value} {L : List FT} (h : OwnFs w base v L) (ho : Only P w w') (hP : ∀ g, P g → g < base) : OwnFs w' base v L := by
  obtain ⟨E, h1, h2, h3⟩ := h
  refine ⟨E, ⟨h1.1, ?_⟩, h2, fun i e x he hx => ⟨(h3 i e x he hx).1, own8_only (h3 i e x he hx).2 ho hP⟩⟩
  rcases h1.2 with h0 | ⟨g, cap, cur, e, c1, c2, r⟩
  · exact .inl h0
  · exact .inr ⟨g, cap, cur, e, c1, (ho.block g (lt_of_heap c2) (fun e2 => by have := hP g e2; omega)).trans c2, r⟩
/-- a step, while rows of the law's own lie behind the disk -/
theorem do_keep {w0 W0 W : World} {dd : Nat} {A : Pl} (h : DP w0 dd A W0) (hb0 : Below W0.heap.size W0 W) (wh : Int) (na nb : ByteArray) (l : BS) (q : Option Addr) (m c : Nat) (hm : l.length = m) (hs : na.data.toList.length + nb.data.toList.length + l.length ≤ 1048576) (hin : In8 W q l) (hfit : FitP A) :
    Calls Tryd.prog 25 #[.pointer (some ⟨dd, 0, none⟩), .agg #[.int .i64 (stepI wh), .string na, .string nb, .slice q m c]] W fun e w' => ∃ z, e = .returned (.int .i64 z) ∧ z = (doP A (opOf wh na.data.toList nb.data.toList l)).2 ∧ DP w0 dd (doP A (opOf wh na.data.toList nb.data.toList l)).1 w' ∧ Only (fun g => w0.heap.size ≤ g ∧ g < W0.heap.size) W w' := by
  obtain ⟨P, h1, h2, h3⟩ := h
  have h1s := h1.shrink.below hb0
  rw [size_list, size_list] at hs
  have := do_any h1s (stepI wh) na nb l q m c hm (by omega) (by omega) (by omega) hin hfit
  rw [opOf_step] at this
  refine this.mono fun e w' hp => ⟨_, hp.1, rfl, DP.step (h3.trans (hb0.mono h3.size)) (fun g hg => h2 g hg.1) hp, ?_⟩
  obtain ⟨_, _, ho⟩ := hp
  exact ⟨ho.os, ho.tape, ho.output, ho.size, fun k hk hnk => ho.block k hk (fun e => hnk ⟨h2 k e.1, e.2⟩)⟩
end Go.Proofs.YtnhfnfdmpcpcoaaDoor

/-
  Read: a file's bytes.
-/
namespace Go.Proofs.YtnhfnfdmpcpcoaaDoor
open Go.RowKit Go.Maps

set_option maxRecDepth 100000 in
set_option maxHeartbeats 4000000 in
theorem read_p {w : World} {P : Nat → Prop} {dd : Nat} {A : Pl} (h : DiskP w P dd A) (nm : ByteArray) (hnm : nm.size ≤ 140737488351232) (hus : usedP A ≤ 140737488351232) :
    Calls Tryd.prog 17 #[.pointer (some ⟨dd, 0, none⟩), .string nm] w fun e w' => ∃ v, e = .returned (.tuple #[v, .int .i64 (readEP A nm.data.toList)]) ∧ Own8 w' w.heap.size v (readP A nm.data.toList) ∧ Below w.heap.size w w' := by
  obtain ⟨S, h, rfl⟩ := h
  rw [abs_used h.nowF] at hus
  have hE : readEP (absD S) nm.data.toList = if downS S = true then 93 else if badN nm.data.toList = true then 95 else if lookN S.now nm.data.toList = none then 90 else 0 := by
    unfold readEP
    rw [abs_down, abs_look]
    cases lookN S.now nm.data.toList <;> rfl
  have hR : readP (absD S) nm.data.toList = if readEP (absD S) nm.data.toList = 0 then datP (absD S) (atP (absD S) nm.data.toList) else [] := rfl
  have HR0 := Lib.hid hR
  have HE0 := Lib.hid hE
  have c0 : w.cell? ⟨dd, 0, none⟩ = some (.map (some S.bn)) := h.cell 0
  have hrun := run_lookF h.now nm (by unfold maxLen; omega)
  have hdown := down_any h
  obtain ⟨q, hq⟩ : ∃ q, fileV (lookN S.now nm.data.toList) = .pointer q := by cases lookN S.now nm.data.toList <;> exact ⟨_, rfl⟩
  rw [hq] at hrun
  have HQ := Lib.hid hq
  clear hR hE hq
  cases hd : downS S with
  | true =>
    rw [hd] at hdown
    have HE := Lib.hid (show readEP (absD S) nm.data.toList = 93 by rw [HE0.out, if_pos hd])
    have HRR := Lib.hid (show readP (absD S) nm.data.toList = [] by rw [HR0.out, HE.out]; rfl)
    clear hd
    go_enter Tryd.func17, Tryd.ntmps17
    go_wp2_with fail
    refine hdown.mono ?_
    rintro e w1 ⟨rfl, hb1⟩
    clear hdown
    go_wp2_with fail
    go_ret2
    exact ⟨_, by rw [HE.out]; rfl, by rw [HRR.out]; exact Own8.nil _ _, hb1⟩
  | false =>
    rw [hd] at hdown
    have HE1 := Lib.hid (show readEP (absD S) nm.data.toList = if badN nm.data.toList = true then 95 else if lookN S.now nm.data.toList = none then 90 else 0 by rw [HE0.out, if_neg (by rw [hd]; simp)])
    clear hd
    have hgood := fun W => good_any nm W hnm
    cases hb : goodN nm.data.toList with
    | false =>
      rw [hb] at hgood
      have HE := Lib.hid (show readEP (absD S) nm.data.toList = 95 by rw [HE1.out, if_pos (by unfold badN; rw [hb]; rfl)])
      have HRR := Lib.hid (show readP (absD S) nm.data.toList = [] by rw [HR0.out, HE.out]; rfl)
      clear hb
      go_enter Tryd.func17, Tryd.ntmps17
      go_wp2_with fail
      refine hdown.mono ?_
      rintro e w1 ⟨rfl, hb1⟩
      clear hdown
      go_wp2_with fail
      refine (hgood _).mono ?_
      rintro e w2 ⟨rfl, hb2⟩
      clear hgood
      go_wp2_with fail
      go_ret2
      exact ⟨_, by rw [HE.out]; rfl, by rw [HRR.out]; exact Own8.nil _ _, hb1.trans (hb2.mono hb1.size)⟩
    | true =>
      rw [hb] at hgood
      have HE2 := Lib.hid (show readEP (absD S) nm.data.toList = if lookN S.now nm.data.toList = none then 90 else 0 by rw [HE1.out, if_neg (by unfold badN; rw [hb]; simp)])
      clear hb
      cases hl : lookN S.now nm.data.toList with
      | none =>
        have HE := Lib.hid (show readEP (absD S) nm.data.toList = 90 by rw [HE2.out, if_pos hl])
        have HRR := Lib.hid (show readP (absD S) nm.data.toList = [] by rw [HR0.out, HE.out]; rfl)
        have hq := HQ.out
        rw [hl] at hq
        unfold fileV at hq
        injection hq with hq
        subst hq
        clear hl
        go_enter Tryd.func17, Tryd.ntmps17
        go_wp2_with fail
        refine hdown.mono ?_
        rintro e w1 ⟨rfl, hb1⟩
        clear hdown
        go_wp2_with fail
        refine (hgood _).mono ?_
        rintro e w2 ⟨rfl, hb2⟩
        clear hgood
        go_wp2_with fail
        go_ret2
        exact ⟨_, by rw [HE.out]; rfl, by rw [HRR.out]; exact Own8.nil _ _, hb1.trans (hb2.mono hb1.size)⟩
      | some g =>
        have HE := Lib.hid (show readEP (absD S) nm.data.toList = 0 by rw [HE2.out, if_neg (by rw [hl]; simp)])
        have hq := HQ.out
        rw [hl] at hq
        unfold fileV at hq
        injection hq with hq
        subst hq
        have hmem := lookN_mem _ _ _ hl
        have hfile := h.nowF _ hmem
        simp only at hfile
        have hat : atP (absD S) nm.data.toList = noF S.files g := by unfold atP; rw [abs_look, hl]; rfl
        have HRR := Lib.hid (show readP (absD S) nm.data.toList = datF S g by rw [HR0.out, if_pos HE.out, hat, abs_dat hfile])
        have hdl := dat_le_used hmem
        simp only at hdl
        obtain ⟨f, hfm, hfg⟩ := hfile
        obtain ⟨i, hi, ei⟩ := List.getElem_of_mem hfm
        have hfi : S.files[i]? = some f := by rw [List.getElem?_eq_getElem hi, ei]
        have hdf := datF_mem h.apart hfm
        rw [hfg] at hdf
        subst hfg
        rw [hdf] at hdl
        have HDF := Lib.hid hdf
        have HFI := Lib.hid hfi
        clear hl hat hmem hfm hi ei hdf hfi
        go_enter Tryd.func17, Tryd.ntmps17
        go_wp2_with fail
        refine hdown.mono ?_
        rintro e w1 ⟨rfl, hb1⟩
        clear hdown
        go_wp2_with fail
        refine (hgood _).mono ?_
        rintro e w2 ⟨rfl, hb2⟩
        clear hgood
        have hB := hb1.trans (hb2.mono hb1.size)
        obtain ⟨b1, b2, b3, b4, b5⟩ := (h.below hB).files i f HFI.out
        obtain ⟨pv, cv, hval, hc1, hc2, hin⟩ := b2.in8n rfl
        have c1 : w2.cell? ⟨f.blk, 1, none⟩ = some (.slice pv f.data.length cv) := by rw [cell_of_row _ _ _ _ _ _ b1, ← hval]; rfl
        have hcl := cloneB_any f.data pv _ cv rfl (by omega) (fun e => by
          subst e
          rcases b2.2 with ⟨e, _⟩ | ⟨g', cap, cur, e, _⟩
          · rw [hval] at e; injection e
          · rw [hval] at e; injection e with e; cases e) w2 hin
        have HB := Lib.hid hB
        clear b1 b2 b3 b4 b5 hval hc1 hc2 hin hB
        go_wp2_with fail
        refine hcl.mono ?_
        rintro e w3 ⟨v, rfl, hown, hb3⟩
        clear hcl
        go_wp2_with fail
        go_ret2
        have hB := HB.out
        exact ⟨_, by rw [HE.out]; rfl, by rw [HRR.out, HDF.out]; exact hown.mono hB.size, hB.trans (hb3.mono hB.size)⟩
end Go.Proofs.YtnhfnfdmpcpcoaaDoor

/-
  Read of a disk, in the words of the laws.
-/
namespace Go.Proofs.YtnhfnfdmpcpcoaaDoor
open Go.RowKit Go.Maps

theorem read_dp {n : Nat} {w0 W : World} {dd : Nat} {A : Pl} (h : DP w0 dd A W) (hA : GoodA n A) (hn : n ≤ 1000000) (nm : ByteArray) (hnm : nm.size ≤ 140737488351232) :
    Calls Tryd.prog 17 #[.pointer (some ⟨dd, 0, none⟩), .string nm] W fun e w' => ∃ p c, e = .returned (.tuple #[.slice p (readP A nm.data.toList).length c, .int .i64 (readEP A nm.data.toList)]) ∧ In8 w' p (readP A nm.data.toList) ∧ (readP A nm.data.toList).length ≤ c ∧ c ≤ maxLen ∧ (∀ a, p = some a → W.heap.size ≤ a.block) ∧ Own8 w' W.heap.size (.slice p (readP A nm.data.toList).length c) (readP A nm.data.toList) ∧ Below W.heap.size W w' := by
  obtain ⟨P, h1, h2, h3⟩ := h
  refine (read_p h1 nm hnm (hA.fitP hn).used).mono fun e w' hp => ?_
  obtain ⟨v, rfl, hown, hb⟩ := hp
  have hown2 := hown
  obtain ⟨p, c, rfl, h4, h5, hin⟩ := hown.in8n rfl
  refine ⟨p, c, rfl, hin, h4, h5, fun a ha => ?_, hown2, hb⟩
  subst ha
  exact (World.ownsRow.lt hown2 a.block rfl).1
theorem readP_len {n : Nat} {A : Pl} (hA : GoodA n A) (k : BS) : (readP A k).length ≤ 140737488351232 := by
  unfold readP
  split
  · unfold datP
    cases hx : A.files[atP A k]? with
    | none => simp
    | some y =>
      have := hA.dat y (List.mem_of_getElem? hx)
      simp only [Option.map_some, Option.getD_some]
      exact this
  · simp
end Go.Proofs.YtnhfnfdmpcpcoaaDoor

/-
  The document's disk in the heap: rows of names with numbers, rows of rows; the nine values of a state.
-/
namespace Go.Proofs.YtnhfnfdmpcpcoaaDoor
open Go.RowKit Go.Maps

/-- names with numbers, as cells -/
def nc (M : NM) : List (BS × Value) := M.map fun x => (x.1, .int .i64 (x.2 : Int))
theorem nc_length (M : NM) : (nc M).length = M.length := by simp [nc]
theorem nc_append (M N : NM) : nc (M ++ N) = nc M ++ nc N := by simp [nc]
def InN (w : World) (p : Option Addr) (M : NM) : Prop := InE w p (nc M)
theorem InN.below {w w' : World} {p : Option Addr} {M : NM} (h : InN w p M) (hb : Below w.heap.size w w') : InN w' p M := InE.below h hb
theorem InN.nil (w : World) (p : Option Addr) : InN w p [] := fun h => absurd h (by simp [nc])
theorem InN.at {w : World} {p : Option Addr} {M : NM} (h : InN w p M) {k : Nat} (hk : k < M.length) :
    ∃ b o, p = some ⟨b, o, none⟩ ∧ ∃ x : ByteArray, w.cell? ⟨b, o + k * 2, none⟩ = some (.string x) ∧ w.cell? ⟨b, o + k * 2 + 1, none⟩ = some (.int .i64 (M[k].2 : Int)) ∧ x.data.toList = M[k].1 := by
  have hk2 : k < (nc M).length := by rw [nc_length]; exact hk
  obtain ⟨b, o, e, hc⟩ := h (by omega)
  obtain ⟨g1, g2⟩ := fc_get (nc M) k hk2
  have e1 : (nc M)[k] = (M[k].1, .int .i64 (M[k].2 : Int)) := by simp [nc]
  rw [e1] at g1 g2
  exact ⟨b, o, e, _, hc _ _ g1, by have := hc _ _ g2; rwa [← Nat.add_assoc] at this, rfl⟩
/-- a slice of names, as a value -/
def NamV (w : World) (v : Value) (M : NM) : Prop := ∃ p c, v = .slice p M.length c ∧ InN w p M
theorem NamV.below {w w' : World} {v : Value} {M : NM} (h : NamV w v M) (hb : Below w.heap.size w w') : NamV w' v M := by
  obtain ⟨p, c, e, h⟩ := h
  exact ⟨p, c, e, h.below hb⟩
theorem NamV.one {w : World} {v : Value} {M : NM} (h : NamV w v M) : v.oneCell' = true := by
  obtain ⟨p, c, e, _⟩ := h
  rw [e]; rfl
/-- names that the call owns -/
def OwnM (w : World) (base : Nat) (v : Value) (M : NM) : Prop := w.ownsRow base 94 2 v M.length (fc (nc M))
theorem OwnM.made (w : World) : OwnM (w.alloc (.cells #[] 94)) w.heap.size (.slice (some ⟨w.heap.size, 0, none⟩) 0 0) [] :=
  ⟨rfl, .inr ⟨w.heap.size, 0, #[], rfl, Nat.le_refl _, heap_alloc_new w _, by simp, by unfold maxLen; omega, rfl, rfl⟩⟩
theorem OwnM.nil (w : World) (base : Nat) : OwnM w base (.slice none 0 0) [] := World.ownsRow_nil _ _ _ _
theorem OwnM.below {w w' : World} {base : Nat} {v : Value} {M : NM} (h : OwnM w base v M) (hb : Below w.heap.size w w') : OwnM w' base v M := ownsRow_below h hb
theorem OwnM.mono {w : World} {base base' : Nat} {v : Value} {M : NM} (h : OwnM w base v M) (hb : base' ≤ base) : OwnM w base' v M := ownsRow_mono h hb
theorem OwnM.shape {w : World} {base n : Nat} {v : Value} {M : NM} (h : OwnM w base v M) (hn : M.length = n) : ∃ p c, v = .slice p n c ∧ InN w p M := by
  subst hn
  rcases h.2 with ⟨rfl, hn⟩ | ⟨g, cap, cur, rfl, hb, hg, hnc, hcm, hcs, ht⟩
  · exact ⟨none, 0, by rw [hn], fun h0 => by rw [nc_length] at h0; omega⟩
  · refine ⟨some ⟨g, 0, none⟩, cap, rfl, fun h0 => ⟨g, 0, rfl, fun j v hv => ?_⟩⟩
    rw [cell_of_row _ _ _ _ _ _ hg, Nat.zero_add, ← Array.getElem?_toList]
    have hj : j < M.length * 2 := by rw [← nc_length, ← fc_length]; exact (List.getElem?_eq_some_iff.1 hv).1
    rw [← ht, List.getElem?_take_of_lt hj] at hv
    exact hv
theorem OwnM.namV {w : World} {base : Nat} {v : Value} {M : NM} (h : OwnM w base v M) : NamV w v M := h.shape rfl
theorem OwnM.grown {w w1 w' : World} {B : Nat} {v : Value} {M : NM} (hB : Below B w w1) (hs : B ≤ w1.heap.size) (hown : OwnM w1 B v M) (hg : w1.grownBy w' v.ownBlock) : Below B w w' :=
  hB.grown hg hs (fun _ e => (World.ownsRow.lt hown _ e).1)
theorem infoN9 : (Tryd.prog.info? 94).map (fun i => (i.zero, i.size, i.bytes)) = some (some (.agg #[.string .empty, .int .i64 0]), 2, 24) := by kernel_rfl
theorem src_name {w : World} {b c : Nat} {k : BS} {u : Value} (hin : InE w (some ⟨b, 0, none⟩) [(k, u)]) (hone : u.oneCell' = true) : Src Tryd.prog 2 49 (.slice (some ⟨b, 0, none⟩) 1 c) 1 (fc [(k, u)]) w := by
  obtain ⟨b', o', e, hc⟩ := hin (by simp)
  obtain ⟨rfl, rfl⟩ : b = b' ∧ 0 = o' := by injection e with e; injection e with e1 e2; exact ⟨e1, e2⟩
  refine Src.ofSlice w Tryd.underlying49 ⟨b, 0, none⟩ 1 c (fc [(k, u)]) (by rw [fc_length]; rfl) (fun j z hz => ?_) (fc_one fun e he => by rw [List.mem_singleton.1 he]; exact hone)
  rw [Go.WideShapes.add_plain]; exact hc j z hz

section
variable {w : World}
/-- one name more -/
theorem wpList_appendM {ops : Array Oper} {rest : List Oper} {o : Oper} {a : Act} {Q : Exit → Act → World → Prop} (hgd : o.guard = none) (s x : Operand)
    (ho : o.op = .call { callee := .builtin .append, args := #[s, x], argTypes := #[49, 49] })
    (base : Nat) (v : Value) (M : NM) (hv : a.eval s = v) (hown : OwnM w base v M)
    (b c : Nat) (k : BS) (f : Nat) (hx : a.eval x = .slice (some ⟨b, 0, none⟩) 1 c) (hin : InE w (some ⟨b, 0, none⟩) [(k, .int .i64 (f : Int))])
    (hr : M.length ≤ 4500000000000) (hbase : base ≤ w.heap.size)
    (h : ∀ v' w', OwnM w' base v' (M ++ [(k, f)]) → w.grownBy w' v.ownBlock → wpList Tryd.prog ops Q rest (a.put o.dst v') w') : wpList Tryd.prog ops Q (o :: rest) a w := by
  refine wpList_append_way w hgd s x 49 49 ho base 94 (.agg #[.string .empty, .int .i64 0]) 2 24 Tryd.underlying49 infoN9 rfl v M.length (fc (nc M)) hv hown _ 1 (fc [(k, .int .i64 (f : Int))]) hx (src_name hin rfl) (by unfold maxLen; omega) (by omega) hbase ?_
  intro v' w' ho' hg _
  exact h v' w' (by unfold OwnM; rw [List.length_append, nc_append, fc_append]; exact ho') hg
/-- the same, as a step of a region that draws -/
theorem step_appendM {ops : Array Oper} {o : Oper} {a : Act} {K : Act → World → Prop} {Q : Exit → Act → World → Prop} {P : Prop} (hgd : o.guard = none) (s x : Operand)
    (ho : o.op = .call { callee := .builtin .append, args := #[s, x], argTypes := #[49, 49] })
    (base : Nat) (v : Value) (M : NM) (hv : a.eval s = v) (hown : OwnM w base v M)
    (b c : Nat) (k : BS) (f : Nat) (hx : a.eval x = .slice (some ⟨b, 0, none⟩) 1 c) (hin : InE w (some ⟨b, 0, none⟩) [(k, .int .i64 (f : Int))])
    (hr : M.length ≤ 4500000000000) (hbase : base ≤ w.heap.size)
    (h : ∀ v' w', OwnM w' base v' (M ++ [(k, f)]) → w.grownBy w' v.ownBlock → K (a.put o.dst v') w') :
    if Region.wanted o (yielded ops a.tmps) = true then Oper.wp Tryd.prog o a w K Q else P := by
  refine step_append_fit hgd s x 49 49 ho base 94 (.agg #[.string .empty, .int .i64 0]) 2 24 Tryd.underlying49 infoN9 rfl v M.length (fc (nc M)) hv hown _ 1 (fc [(k, .int .i64 (f : Int))]) hx (src_name hin rfl) (by unfold maxLen; omega) (by omega) hbase ?_
  intro v' w' ho' hg
  exact h v' w' (by unfold OwnM; rw [List.length_append, nc_append, fc_append]; exact ho') hg
end

/-- a row of values, each of which reads as a thing of the list -/
def InR {α : Type} (R : World → Value → α → Prop) (w : World) (p : Option Addr) (L : List α) : Prop :=
  ∃ vs, InV w p vs ∧ vs.length = L.length ∧ ∀ (i : Nat) (v : Value) (x : α), vs[i]? = some v → L[i]? = some x → R w v x
theorem InR.below {α : Type} {R : World → Value → α → Prop} (hR : ∀ {w w' v x}, R w v x → Below w.heap.size w w' → R w' v x) {w w' : World} {p : Option Addr} {L : List α} (h : InR R w p L) (hb : Below w.heap.size w w') : InR R w' p L := by
  obtain ⟨vs, h1, h2, h3⟩ := h
  exact ⟨vs, h1.below hb, h2, fun i v x hv hx => hR (h3 i v x hv hx) hb⟩
theorem InR.nil {α : Type} (R : World → Value → α → Prop) (w : World) (p : Option Addr) : InR R w p [] := ⟨[], fun h => absurd h (by simp), rfl, fun i v x hv => by simp at hv⟩
theorem InR.at {α : Type} {R : World → Value → α → Prop} {w : World} {p : Option Addr} {L : List α} (h : InR R w p L) {k : Nat} (hk : k < L.length) :
    ∃ b o, p = some ⟨b, o, none⟩ ∧ ∃ v, w.cell? ⟨b, o + k, none⟩ = some v ∧ R w v L[k] := by
  obtain ⟨vs, h1, h2, h3⟩ := h
  have hk2 : k < vs.length := by omega
  obtain ⟨b, o, e, hc⟩ := h1 (by omega)
  exact ⟨b, o, e, vs[k], hc k hk2, h3 k _ _ (List.getElem?_eq_getElem hk2) (List.getElem?_eq_getElem hk)⟩
/-- a slice of bytes, as a value, with its room -/
def DatV (w : World) (v : Value) (l : BS) : Prop := ∃ q c, v = .slice q l.length c ∧ (q = none → c = 0) ∧ l.length ≤ maxLen ∧ In8 w q l ∧ l.length ≤ c
theorem DatV.below {w w' : World} {v : Value} {l : BS} (h : DatV w v l) (hb : Below w.heap.size w w') : DatV w' v l := by
  obtain ⟨q, c, e, h1, h2, h3, h4⟩ := h
  exact ⟨q, c, e, h1, h2, h3.below hb, h4⟩
theorem DatV.one {w : World} {v : Value} {l : BS} (h : DatV w v l) : v.oneCell' = true := by
  obtain ⟨q, c, e, _⟩ := h
  rw [e]; rfl
theorem Own8.datV {w : World} {base : Nat} {v : Value} {l : BS} (h : Own8 w base v l) : DatV w v l := by
  obtain ⟨q, c, e, h1, h2, h3⟩ := h.byteV
  obtain ⟨q2, c2, e2, m1, _⟩ := h.in8
  rw [e] at e2
  injection e2 with _ _ e4
  exact ⟨q, c, e, h1, h2, h3, by rw [e4]; exact m1⟩
abbrev InDs := InR DatV
abbrev InNs := InR NamV
theorem InDs.below {w w' : World} {p : Option Addr} {L : List BS} (h : InDs w p L) (hb : Below w.heap.size w w') : InDs w' p L := InR.below (fun h hb => h.below hb) h hb
theorem InNs.below {w w' : World} {p : Option Addr} {L : List NM} (h : InNs w p L) (hb : Below w.heap.size w w') : InNs w' p L := InR.below (fun h hb => h.below hb) h hb
/-- a row of values that the call owns -/
def OwnR {α : Type} (R : World → Value → α → Prop) (e : TypeId) (w : World) (base : Nat) (v : Value) (L : List α) : Prop :=
  ∃ vs, w.ownsRow base e 1 v L.length vs ∧ vs.length = L.length ∧ ∀ (i : Nat) (v : Value) (x : α), vs[i]? = some v → L[i]? = some x → R w v x
theorem OwnR.made {α : Type} (R : World → Value → α → Prop) (e : TypeId) (w : World) : OwnR R e (w.alloc (.cells #[] e)) w.heap.size (.slice (some ⟨w.heap.size, 0, none⟩) 0 0) [] :=
  ⟨[], ⟨rfl, .inr ⟨w.heap.size, 0, #[], rfl, Nat.le_refl _, heap_alloc_new w _, by simp, by unfold maxLen; omega, rfl, rfl⟩⟩, rfl, fun i v x hv => by simp at hv⟩
theorem OwnR.nil {α : Type} (R : World → Value → α → Prop) (e : TypeId) (w : World) (base : Nat) : OwnR R e w base (.slice none 0 0) [] := ⟨[], World.ownsRow_nil _ _ _ _, rfl, fun i v x hv => by simp at hv⟩
theorem OwnR.inR {α : Type} {R : World → Value → α → Prop} {e : TypeId} {w : World} {base n : Nat} {v : Value} {L : List α} (h : OwnR R e w base v L) (hn : L.length = n) : ∃ p c, v = .slice p n c ∧ InR R w p L := by
  subst hn
  obtain ⟨vs, h1, h2, h3⟩ := h
  obtain ⟨p, c, e, _, _, hin, _⟩ := owns_shape h1
  exact ⟨p, c, e, vs, hin, h2, h3⟩

/-- the names behind each change -/
def pendN (A : Pl) : List NM := (List.range A.pend.length).map fun i => (A.pend.take (i + 1)).foldl (fun M c => applyC c M) A.safe
theorem pendN_length (A : Pl) : (pendN A).length = A.pend.length := by simp [pendN]
theorem pendN_get (A : Pl) (i : Nat) (h : i < A.pend.length) : (pendN A)[i]? = some ((A.pend.take (i + 1)).foldl (fun M c => applyC c M) A.safe) := by
  unfold pendN
  rw [List.getElem?_map, List.getElem?_range h]; rfl
structure RC where
  p1 : Option Addr
  c1 : Nat
  p2 : Option Addr
  c2 : Nat
  p3 : Option Addr
  c3 : Nat
  p4 : Option Addr
  c4 : Nat
  p5 : Option Addr
  c5 : Nat
  p6 : Option Addr
  c6 : Nat
def stC (r : RC) (A : Pl) : Array Value := #[.slice r.p1 A.now.length r.c1, .slice r.p2 A.safe.length r.c2, .slice r.p3 A.pend.length r.c3, .slice r.p4 A.files.length r.c4, .slice r.p5 A.files.length r.c5, .int .i64 (A.room : Int), .slice r.p6 A.fails.length r.c6, .int .i64 A.power, .int .i64 (A.steps : Int)]
/-- the document's state in the heap -/
structure RefAt (w : World) (r : RC) (A : Pl) : Prop where
  now : InN w r.p1 A.now
  safe : InN w r.p2 A.safe
  pend : InNs w r.p3 (pendN A)
  data : InDs w r.p4 (A.files.map (·.1))
  firm : InV w r.p5 (A.files.map fun f => .int .i64 (f.2 : Int))
  fails : InV w r.p6 (A.fails.map (Value.int .i64))
theorem RefAt.below {w w' : World} {r : RC} {A : Pl} (h : RefAt w r A) (hb : Below w.heap.size w w') : RefAt w' r A :=
  ⟨h.now.below hb, h.safe.below hb, InNs.below h.pend hb, InDs.below h.data hb, h.firm.below hb, h.fails.below hb⟩

/-- what stands in a cell of w stands there in w' -/
def Keeps (w w' : World) : Prop := ∀ a v, w.cell? a = some v → w'.cell? a = some v
theorem Below.keeps {w w' : World} (hb : Below w.heap.size w w') : Keeps w w' := fun a _ h => (hb.cell (p := a) (World.block_lt_of_cell? w _ h)).trans h
theorem In8.keeps {w w' : World} {p : Option Addr} {l : BS} (h : In8 w p l) (hk : Keeps w w') : In8 w' p l := by
  intro h0
  obtain ⟨b, o, rfl, hc⟩ := h h0
  exact ⟨b, o, rfl, fun i hi => hk _ _ (hc i hi)⟩
theorem InV.keeps {w w' : World} {p : Option Addr} {xs : List Value} (h : InV w p xs) (hk : Keeps w w') : InV w' p xs := by
  intro h0
  obtain ⟨b, o, rfl, hc⟩ := h h0
  exact ⟨b, o, rfl, fun i hi => hk _ _ (hc i hi)⟩
theorem InN.keeps {w w' : World} {p : Option Addr} {M : NM} (h : InN w p M) (hk : Keeps w w') : InN w' p M := by
  intro h0
  obtain ⟨b, o, rfl, hc⟩ := h h0
  exact ⟨b, o, rfl, fun j v hv => hk _ _ (hc j v hv)⟩
theorem ByteV.keeps {w w' : World} {v : Value} {l : BS} (h : ByteV w v l) (hk : Keeps w w') : ByteV w' v l := by
  obtain ⟨q, c, e, h1, h2, h3⟩ := h
  exact ⟨q, c, e, h1, h2, h3.keeps hk⟩
theorem DatV.keeps {w w' : World} {v : Value} {l : BS} (h : DatV w v l) (hk : Keeps w w') : DatV w' v l := by
  obtain ⟨q, c, e, h1, h2, h3, h4⟩ := h
  exact ⟨q, c, e, h1, h2, h3.keeps hk, h4⟩
theorem NamV.keeps {w w' : World} {v : Value} {M : NM} (h : NamV w v M) (hk : Keeps w w') : NamV w' v M := by
  obtain ⟨p, c, e, h⟩ := h
  exact ⟨p, c, e, h.keeps hk⟩
theorem InR.keeps {α : Type} {R : World → Value → α → Prop} (hR : ∀ {w w' v x}, R w v x → Keeps w w' → R w' v x) {w w' : World} {p : Option Addr} {L : List α} (h : InR R w p L) (hk : Keeps w w') : InR R w' p L := by
  obtain ⟨vs, h1, h2, h3⟩ := h
  exact ⟨vs, h1.keeps hk, h2, fun i v x hv hx => hR (h3 i v x hv hx) hk⟩
theorem RefAt.keeps {w w' : World} {r : RC} {A : Pl} (h : RefAt w r A) (hk : Keeps w w') : RefAt w' r A :=
  ⟨h.now.keeps hk, h.safe.keeps hk, InR.keeps (fun h hk => h.keeps hk) h.pend hk, InR.keeps (fun h hk => h.keeps hk) h.data hk, h.firm.keeps hk, h.fails.keeps hk⟩
/-- w without what lies in the blocks P -/
structure IsMask (P : Nat → Prop) (w g : World) : Prop where
  size : g.heap.size = w.heap.size
  same : ∀ k, ¬ P k → g.heap[k]? = w.heap[k]?
  none : ∀ a v, P a.block → g.cell? a ≠ some v
open Classical in
theorem mask_ex (P : Nat → Prop) (w : World) : ∃ g, IsMask P w g := by
  refine ⟨{ w with heap := w.heap.mapIdx fun k o => if P k then .cells #[] 0 (0, 0) else o }, ?_, fun k hk => ?_, fun a v ha => ?_⟩
  · simp
  · simp only [Array.getElem?_mapIdx, if_neg hk]
    cases w.heap[k]? <;> rfl
  · unfold World.cell?
    simp only [Array.getElem?_mapIdx, if_pos ha]
    cases w.heap[a.block]? <;> simp
theorem IsMask.keeps {P : Nat → Prop} {w g : World} (h : IsMask P w g) : Keeps g w := by
  intro a v hc
  by_cases hP : P a.block
  · exact absurd hc (h.none a v hP)
  · unfold World.cell? at hc ⊢
    rw [← h.same _ hP]
    exact hc
/-- w' keeps what lies outside P, and masks no more of what was there -/
theorem IsMask.step {P P' : Nat → Prop} {w w' g g' : World} (h : IsMask P w g) (h' : IsMask P' w' g') (hs : ∀ k, k < w.heap.size → ¬ P k → w'.heap[k]? = w.heap[k]?) (hP : ∀ k, P' k → P k ∨ w.heap.size ≤ k) : Keeps g g' := by
  intro a v hc
  have hlt : a.block < w.heap.size := World.block_lt_of_cell? w _ (h.keeps a v hc)
  by_cases hPa : P a.block
  · exact absurd hc (h.none a v hPa)
  · have hPa' : ¬ P' a.block := fun e => by
      rcases hP _ e with e | e
      · exact hPa e
      · omega
    unfold World.cell? at hc ⊢
    rw [h'.same _ hPa', hs _ hlt hPa, ← h.same _ hPa]
    exact hc
theorem IsMask.below {P : Nat → Prop} {w w' g g' : World} (h : IsMask P w g) (h' : IsMask P w' g') (hb : Below w.heap.size w w') : Keeps g g' :=
  h.step h' (fun k hk _ => hb.block k hk) fun _ hk => .inl hk
theorem IsMask.owns {P : Nat → Prop} {w g : World} (h : IsMask P w g) {base e size n : Nat} {v : Value} {xs : List Value} (hown : w.ownsRow base e size v n xs) (hP : ∀ k, P k → k < base) : g.ownsRow base e size v n xs := by
  refine ⟨hown.1, ?_⟩
  rcases hown.2 with h0 | ⟨k, cap, cur, e, c1, c2, r⟩
  · exact .inl h0
  · exact .inr ⟨k, cap, cur, e, c1, (h.same k (fun e => by have := hP k e; omega)).trans c2, r⟩
/-- the document's state, none of it in the blocks P -/
def RefP (P : Nat → Prop) (w : World) (r : RC) (A : Pl) : Prop := ∃ g, IsMask P w g ∧ RefAt g r A
theorem RefP.plain {P : Nat → Prop} {w : World} {r : RC} {A : Pl} (h : RefP P w r A) : RefAt w r A := by
  obtain ⟨g, h1, h2⟩ := h
  exact h2.keeps h1.keeps
theorem RefP.step {P P' : Nat → Prop} {w w' : World} {r : RC} {A : Pl} (h : RefP P w r A) (hs : ∀ k, k < w.heap.size → ¬ P k → w'.heap[k]? = w.heap[k]?) (hP : ∀ k, P' k → P k ∨ w.heap.size ≤ k) : RefP P' w' r A := by
  obtain ⟨g, h1, h2⟩ := h
  obtain ⟨g', h'⟩ := mask_ex P' w'
  exact ⟨g', h', h2.keeps (h1.step h' hs hP)⟩
theorem RefP.below {P : Nat → Prop} {w w' : World} {r : RC} {A : Pl} (h : RefP P w r A) (hb : Below w.heap.size w w') : RefP P w' r A :=
  h.step (fun k hk _ => hb.block k hk) fun _ hk => .inl hk
end Go.Proofs.YtnhfnfdmpcpcoaaDoor

/-
  The document's disk: Down, Used, At, List, Read: what only reads a state.
-/
namespace Go.Proofs.YtnhfnfdmpcpcoaaDoor
open Go.RowKit Go.Maps

/-- the box of a state that came as an argument -/
theorem box_below (w : World) (cs : Array Value) (t : TypeId) : Below w.heap.size w (w.alloc (.cells cs t)) := (Below.refl _ w).alloc (Nat.le_refl _) _
theorem box_cell {w W : World} {cs : Array Value} {t : TypeId} (hb : Below (w.alloc (.cells cs t)).heap.size (w.alloc (.cells cs t)) W) (i : Nat) : W.cell? ⟨w.heap.size, i, none⟩ = cs[i]? := by
  have g : (w.alloc (.cells cs t)).heap[w.heap.size]? = some (.cells cs t (0, 0)) := heap_alloc_new w _
  exact cell_of_row _ _ _ _ _ _ ((hb.block w.heap.size (by simp)).trans g)

set_option maxHeartbeats 1000000 in
theorem refDown_any (r : RC) (A : Pl) (w : World) :
    Calls Tryd.prog 39 #[.agg (stC r A)] w fun e w' => e = .returned (.bool (downP A)) ∧ Below w.heap.size w w' := by
  show Calls Tryd.prog 39 #[.agg #[.slice r.p1 A.now.length r.c1, .slice r.p2 A.safe.length r.c2, .slice r.p3 A.pend.length r.c3, .slice r.p4 A.files.length r.c4, .slice r.p5 A.files.length r.c5, .int .i64 (A.room : Int), .slice r.p6 A.fails.length r.c6, .int .i64 A.power, .int .i64 (A.steps : Int)]] w _
  by_cases h1 : 0 ≤ A.power
  · have hd : ((A.steps : Int) == A.power) = downP A := by
      unfold downP
      rw [Bool.eq_iff_iff, beq_iff_eq, decide_eq_true_eq]
      exact ⟨fun e => ⟨h1, e⟩, fun e => e.2⟩
    obtain ⟨b, hb⟩ : ∃ b, b = downP A := ⟨_, rfl⟩
    rw [← hb] at hd ⊢
    clear hb
    go_enter Tryd.func39, Tryd.ntmps39
    go_wp2
    go_ret
    exact ⟨rfl, box_below _ _ _⟩
  · have hd : downP A = false := by unfold downP; exact decide_eq_false (fun e => h1 e.1)
    rw [hd]
    have h2 : decide (0 ≤ A.power) = false := decide_eq_false h1
    have h3 : A.power < 0 := by omega
    clear hd
    go_enter Tryd.func39, Tryd.ntmps39
    go_wp2
    go_ret
    exact ⟨rfl, box_below _ _ _⟩

/-- the number of a name's file, -1: none -/
def atI (M : NM) (k : BS) : Int := match lookN M k with | none => -1 | some f => (f : Int)
theorem lookN_take_none {M : NM} {k : BS} {i : Nat} (h : i < M.length) (hn : lookN (M.take i) k = none) : lookN (M.take (i + 1)) k = if M[i].1 = k then some M[i].2 else none := by
  rw [takes h]
  unfold lookN at hn ⊢
  rw [List.find?_append]
  cases hf : List.find? (fun x => decide (x.1 = k)) (M.take i) with
  | some y => rw [hf] at hn; cases hn
  | none =>
    rw [Option.none_or, List.find?_cons]
    by_cases e : M[i].1 = k
    · rw [if_pos e, decide_eq_true e]; rfl
    · rw [if_neg e, decide_eq_false e]; rfl
theorem lookN_take_some {M : NM} {k : BS} {i f : Nat} (h : lookN (M.take i) k = some f) : lookN M k = some f := by
  unfold lookN at h ⊢
  conv => lhs; rw [← List.take_append_drop i M]
  rw [List.find?_append]
  cases hf : List.find? (fun x => decide (x.1 = k)) (M.take i) with
  | none => rw [hf] at h; cases h
  | some y => rw [hf] at h; exact h

set_option maxRecDepth 100000 in
set_option maxHeartbeats 2000000 in
theorem refAt_any (r : RC) (A : Pl) (nm : ByteArray) (w : World) (hN : InN w r.p1 A.now) (hl : A.now.length ≤ 4000000000000) :
    Calls Tryd.prog 54 #[.agg (stC r A), .string nm] w fun e w' => e = .returned (.int .i64 (atI A.now nm.data.toList)) ∧ Below w.heap.size w w' := by
  show Calls Tryd.prog 54 #[.agg #[.slice r.p1 A.now.length r.c1, .slice r.p2 A.safe.length r.c2, .slice r.p3 A.pend.length r.c3, .slice r.p4 A.files.length r.c4, .slice r.p5 A.files.length r.c5, .int .i64 (A.room : Int), .slice r.p6 A.fails.length r.c6, .int .i64 A.power, .int .i64 (A.steps : Int)], .string nm] w _
  go_enter Tryd.func54, Tryd.ntmps54
  go_wp2_with fail
  obtain ⟨wa, hwa⟩ : ∃ W0, W0 = w.alloc (.cells #[.slice r.p1 A.now.length r.c1, .slice r.p2 A.safe.length r.c2, .slice r.p3 A.pend.length r.c3, .slice r.p4 A.files.length r.c4, .slice r.p5 A.files.length r.c5, .int .i64 (A.room : Int), .slice r.p6 A.fails.length r.c6, .int .i64 A.power, .int .i64 (A.steps : Int)] 52) := ⟨_, rfl⟩
  have hc0 := fun W (hb : Below wa.heap.size wa W) => by rw [hwa] at hb; exact box_cell hb 0
  have hba := box_below w #[.slice r.p1 A.now.length r.c1, .slice r.p2 A.safe.length r.c2, .slice r.p3 A.pend.length r.c3, .slice r.p4 A.files.length r.c4, .slice r.p5 A.files.length r.c5, .int .i64 (A.room : Int), .slice r.p6 A.fails.length r.c6, .int .i64 A.power, .int .i64 (A.steps : Int)] 52
  rw [← hwa] at hba ⊢
  have HC := Lib.hid (fun W (hb : Below wa.heap.size wa W) => show W.cell? ⟨w.heap.size, 0, none⟩ = some (.slice r.p1 A.now.length r.c1) from hc0 W hb)
  have HA0 := Lib.hid hba
  clear hc0 hwa hba
  go_loopw [5] (fun i wr => ∃ k : Nat, k ≤ A.now.length ∧ i = .int .i64 k ∧ lookN (A.now.take k) nm.data.toList = none ∧ Below wa.heap.size wa wr) (fun i _ => A.now.length - (intOf i).toNat)
  case atStart => exact ⟨0, Nat.zero_le _, rfl, rfl, Below.refl _ _⟩
  case round =>
    obtain ⟨k, hk, rfl, hnone, hb⟩ := hrel
    have c0 := HC.out wr hb
    have hbw := HA0.out.trans (hb.mono HA0.out.size)
    by_cases hlt : k < A.now.length
    · obtain ⟨b, o, hp, x, hx1, hx2, hx⟩ := (hN.below hbw).at hlt
      have hst := lookN_take_none hlt hnone
      rw [hp] at c0
      have HB := Lib.hid (And.intro hb hbw)
      clear hp hnone hb hbw
      by_cases heq : x.data.toList = nm.data.toList
      · have hbool : (x.toList == nm.toList) = true := by rw [strs_eq]; simp [heq]
        have hat : atI A.now nm.data.toList = (A.now[k].2 : Int) := by
          rw [← hx, if_pos heq] at hst
          unfold atI
          rw [lookN_take_some hst]
        have HA := Lib.hid hat
        clear hat heq hst hx
        generalize A.now[k].2 = f at hx2 HA
        go_wp2_with fail
        go_ret
        exact ⟨by rw [HA.out]; rfl, HB.out.2⟩
      · have hbool : (x.toList == nm.toList) = false := by rw [strs_eq]; simp [heq]
        rw [← hx, if_neg heq] at hst
        have HST := Lib.hid hst
        clear heq hst hx
        go_wp2_with fail
        go_roundw
        case rel => exact ⟨k + 1, by omega, by go_num, HST.out, HB.out.1⟩
        case measure => simp [intOf]; omega
    · obtain rfl : k = A.now.length := by omega
      have HA := Lib.hid (show atI A.now nm.data.toList = -1 by rw [List.take_length] at hnone; unfold atI; rw [hnone])
      clear hnone
      go_wp2_with fail
      go_ret
      exact ⟨by rw [HA.out]; rfl, hbw⟩
end Go.Proofs.YtnhfnfdmpcpcoaaDoor

/-
  The document's names with one more, or without one.
-/
namespace Go.Proofs.YtnhfnfdmpcpcoaaDoor
open Go.RowKit Go.Maps

/-- one name of the list looked at: what has come out, and whether the new one is in it -/
def nmStep (k : BS) (f : Nat) (s : NM × Bool) (x : BS × Nat) : NM × Bool :=
  if x.1 = k then s else if s.2 = false ∧ k < x.1 then (s.1 ++ [(k, f)] ++ [x], true) else (s.1 ++ [x], s.2)
def nmRun (k : BS) (f : Nat) (put : Bool) (M : NM) : NM × Bool := M.foldl (nmStep k f) ([], put)
def nmEnd (k : BS) (f : Nat) (s : NM × Bool) : NM := if s.2 then s.1 else s.1 ++ [(k, f)]
theorem nmRun_snoc (k : BS) (f : Nat) (put : Bool) {M : NM} {i : Nat} (h : i < M.length) : nmRun k f put (M.take (i + 1)) = nmStep k f (nmRun k f put (M.take i)) M[i] := by
  unfold nmRun
  rw [List.take_succ_eq_append_getElem h, List.foldl_append]
  rfl
theorem nm_true (k : BS) (f : Nat) : ∀ (M S : NM), M.foldl (nmStep k f) (S, true) = (S ++ delN k M, true)
  | [], S => by simp [delN]
  | x :: M, S => by
    rw [List.foldl_cons]
    unfold nmStep
    by_cases e : x.1 = k
    · rw [if_pos e]
      show M.foldl (nmStep k f) (S, true) = _
      rw [nm_true k f M S]
      simp [delN, e]
    · rw [if_neg e, if_neg (by simp)]
      show M.foldl (nmStep k f) (S ++ [x], true) = _
      rw [nm_true k f M]
      simp [delN, e]
theorem ins_out {k : BS} {f : Nat} {M : NM} (h : ∀ x ∈ M, k < x.1) : insN k f M = (k, f) :: M := by
  cases M with
  | nil => rfl
  | cons x M =>
    obtain ⟨m, g⟩ := x
    have := h (m, g) (List.mem_cons_self ..)
    unfold insN
    rw [if_neg (fun e => by rw [e] at this; exact absurd this (List.lt_irrefl _)), if_pos this]
theorem nm_false (k : BS) (f : Nat) : ∀ (M S : NM), Rises M → nmEnd k f (M.foldl (nmStep k f) (S, false)) = S ++ insN k f M
  | [], S, _ => rfl
  | x :: M, S, h => by
    have h' := List.pairwise_cons.1 h
    obtain ⟨m, g⟩ := x
    rw [List.foldl_cons]
    unfold nmStep insN
    by_cases e : m = k
    · rw [if_pos e, if_pos e]
      show nmEnd k f (M.foldl (nmStep k f) (S, false)) = _
      rw [nm_false k f M S h'.2, ins_out (fun y hy => by rw [← e]; exact h'.1 y hy)]
    · rw [if_neg e, if_neg e]
      by_cases hlt : k < m
      · rw [if_pos ⟨rfl, hlt⟩, if_pos hlt]
        show nmEnd k f (M.foldl (nmStep k f) (S ++ [(k, f)] ++ [(m, g)], true)) = _
        rw [nm_true k f M]
        have hd : delN k M = M := delN_out k M fun y hy e2 => by
          have := List.lt_trans hlt (h'.1 y hy)
          rw [e2] at this
          exact absurd this (List.lt_irrefl _)
        rw [hd]
        unfold nmEnd
        simp
      · rw [if_neg (fun h => hlt h.2), if_neg hlt]
        show nmEnd k f (M.foldl (nmStep k f) (S ++ [(m, g)], false)) = _
        rw [nm_false k f M _ h'.2]
        simp
theorem nmRun_length (k : BS) (f : Nat) (put : Bool) (M : NM) : (nmRun k f put M).1.length ≤ M.length + 1 := by
  have : ∀ (M S : NM) (b : Bool), (M.foldl (nmStep k f) (S, b)).1.length ≤ S.length + M.length + (if b then 0 else 1) := by
    intro M
    induction M with
    | nil => intro S b; simp
    | cons x M ih =>
      intro S b
      rw [List.foldl_cons]
      obtain ⟨s, hs⟩ : ∃ s, s = nmStep k f (S, b) x := ⟨_, rfl⟩
      rw [← hs]
      have h1 : s.1.length + (if s.2 then 0 else 1) ≤ S.length + 1 + (if b then 0 else 1) := by
        rw [hs]
        unfold nmStep
        split
        · simp only; omega
        · split
          · rename_i h
            have hb : b = false := h.1
            subst hb
            simp
          · simp
      have h2 := ih s.1 s.2
      simp only [List.length_cons]
      have h3 : (List.foldl (nmStep k f) (s.1, s.2) M) = List.foldl (nmStep k f) s M := rfl
      rw [h3] at h2
      omega
  have h := this M [] put
  simp only [List.length_nil, Nat.zero_add] at h
  unfold nmRun
  split at h <;> omega

/-- the names, the number being what the code was given -/
def putI (k : BS) (no : Int) (M : NM) : NM := if no < 0 then delN k M else insN k no.toNat M

set_option maxRecDepth 100000 in
set_option maxHeartbeats 8000000 in
theorem refNamed_any (M : NM) (hR : Rises M) (hl : M.length ≤ 4000000000000) (p : Option Addr) (n c : Nat) (hn : M.length = n) (nm : ByteArray) (no : Int) (w : World) (hin : InN w p M) :
    Calls Tryd.prog 56 #[.slice p n c, .string nm, .int .i64 no] w fun e w' => ∃ v, e = .returned v ∧ OwnM w' w.heap.size v (putI nm.data.toList no M) ∧ Below w.heap.size w w' := by
  subst hn
  have hmade := OwnM.made w
  have hb0 : Below w.heap.size w (w.alloc (.cells #[] 94)) := (Below.refl _ w).alloc (Nat.le_refl _) _
  obtain ⟨neg, hneg⟩ : ∃ neg, neg = decide (no < 0) := ⟨_, rfl⟩
  obtain ⟨f, hf⟩ : ∃ f, f = no.toNat := ⟨_, rfl⟩
  have hfno : neg = false → (f : Int) = no := fun e => by rw [e] at hneg; have := of_decide_eq_false hneg.symm; omega
  have hfin : ∀ s, s = nmRun nm.data.toList f neg M → putI nm.data.toList no M = nmEnd nm.data.toList f s := by
    intro s hs
    unfold putI
    cases neg with
    | true =>
      rw [if_pos (of_decide_eq_true hneg.symm), hs]
      unfold nmRun nmEnd
      rw [nm_true]
      simp
    | false =>
      rw [if_neg (of_decide_eq_false hneg.symm), hs, ← hf]
      unfold nmRun
      rw [nm_false _ _ _ _ hR]
      rfl
  have HFIN := Lib.hid (And.intro hfin hfno)
  have HNEG := Lib.hid hneg
  clear hfin hR hf hfno
  go_enter Tryd.func56, Tryd.ntmps56
  go_wp2_with fail
  rw [← hneg]
  clear hneg
  go_loopw [7, 8, 9] (fun v pt i wr => ∃ k : Nat, k ≤ M.length ∧ i = .int .i64 k ∧ pt = .bool (nmRun nm.data.toList f neg (M.take k)).2 ∧ OwnM wr w.heap.size v (nmRun nm.data.toList f neg (M.take k)).1 ∧ Below w.heap.size w wr ∧ ((nmRun nm.data.toList f neg (M.take k)).2 = false → neg = false)) (fun _ _ i _ => M.length - (intOf i).toNat)
  case atStart => exact ⟨0, Nat.zero_le _, rfl, rfl, by rw [List.take_zero]; exact hmade, hb0, id⟩
  case round =>
    obtain ⟨k, hk, rfl, rfl, hown, hb, hpn⟩ := hrel
    have hrl := nmRun_length nm.data.toList f neg (M.take k)
    rw [List.length_take] at hrl
    by_cases hlt : k < M.length
    · obtain ⟨b, o, rfl, x, hw1, hw2, hx⟩ := hin.at hlt
      have hx1 := cell_keep hw1 hb
      have hx2 := cell_keep hw2 hb
      have hsn := nmRun_snoc nm.data.toList f neg hlt
      have hM : M[k] = (x.data.toList, M[k].2) := Prod.ext hx.symm rfl
      rw [hM] at hsn
      obtain ⟨g, hg⟩ : ∃ g, g = M[k].2 := ⟨_, rfl⟩
      rw [← hg] at hx2 hw2 hsn
      obtain ⟨s, hs⟩ : ∃ s, s = nmRun nm.data.toList f neg (M.take k) := ⟨_, rfl⟩
      rw [← hs] at hsn hown hpn hrl ⊢
      obtain ⟨so, sp⟩ := s
      simp only at hown hpn hrl ⊢
      have hbs := hb.size
      clear hM hx hg hs hmade hb0
      by_cases heq : x.data.toList = nm.data.toList
      · have hbool : (x.toList == nm.toList) = true := by rw [strs_eq]; simp [heq]
        have HSN := Lib.hid (show nmRun nm.data.toList f neg (M.take (k + 1)) = (so, sp) by rw [hsn]; unfold nmStep; rw [if_pos heq])
        have HPN := Lib.hid hpn
        clear hsn heq hpn
        go_wp2_with fail
        go_roundw
        case rel => exact ⟨k + 1, by omega, by go_num, by rw [HSN.out], by rw [HSN.out]; exact hown, hb, by rw [HSN.out]; exact HPN.out⟩
        case measure => simp [intOf]; omega
      · have hbool : (x.toList == nm.toList) = false := by rw [strs_eq]; simp [heq]
        have hless := lessN x nm
        by_cases hput : sp = false ∧ nm.data.toList < x.data.toList
        · obtain ⟨rfl, hgt⟩ := hput
          rw [decide_eq_false (fun e => absurd (List.lt_trans hgt e) (List.lt_irrefl _))] at hless
          have HSN := Lib.hid (show nmRun nm.data.toList f neg (M.take (k + 1)) = (so ++ [(nm.data.toList, f)] ++ [(x.data.toList, g)], true) by rw [hsn]; unfold nmStep; rw [if_neg heq, if_pos ⟨rfl, hgt⟩])
          have hno := HFIN.out.2 (hpn rfl)
          subst hno
          have hown2 := hown.below ((Below.refl _ wr).alloc (Nat.le_refl _) (.cells #[.string nm, .int .i64 (f : Int)] 94))
          have hine := InE.one wr nm (.int .i64 (f : Int)) 94
          have hB1 := hb.alloc hbs (.cells #[.string nm, .int .i64 (f : Int)] 94)
          clear hsn heq hpn hgt
          go_wp2_with (first
            | (at_builtin; refine wpList_appendM rfl _ _ rfl w.heap.size _ so rfl hown2 _ _ nm.data.toList f rfl hine (by omega) (by simp; omega) ?_; intro v1 w1 hown1 hg1; have hb1 := OwnM.grown hB1 (by simp; omega) hown2 hg1; have hs1 := hb1.size; have hx1' := cell_keep hw1 hb1; have hx2' := cell_keep hw2 hb1; have hown3 := hown1.below ((Below.refl _ w1).alloc (Nat.le_refl _) (.cells #[.string x, .int .i64 (g : Int)] 94)); have hine2 := InE.one w1 x (.int .i64 (g : Int)) 94; have hB2 := hb1.alloc hs1 (.cells #[.string x, .int .i64 (g : Int)] 94); clear hown1 hown2 hg1 hine)
            | (at_builtin; refine wpList_appendM rfl _ _ rfl w.heap.size _ (so ++ [(nm.data.toList, f)]) rfl hown3 _ _ x.data.toList g rfl hine2 (by simp; omega) (by simp; omega) ?_; intro v2 w2 hown4 hg2; have hb2 := OwnM.grown hB2 (by simp; omega) hown3 hg2))
          go_roundw
          case rel => exact ⟨k + 1, by omega, by go_num, by rw [HSN.out], by rw [HSN.out]; exact hown4, hb2, by rw [HSN.out]; intro e; cases e⟩
          case measure => simp [intOf]; omega
        · have HSN := Lib.hid (show nmRun nm.data.toList f neg (M.take (k + 1)) = (so ++ [(x.data.toList, g)], sp) by rw [hsn]; unfold nmStep; rw [if_neg heq, if_neg hput])
          have hown2 := hown.below ((Below.refl _ wr).alloc (Nat.le_refl _) (.cells #[.string x, .int .i64 (g : Int)] 94))
          have hine := InE.one wr x (.int .i64 (g : Int)) 94
          have hB1 := hb.alloc hbs (.cells #[.string x, .int .i64 (g : Int)] 94)
          have HPN := Lib.hid hpn
          cases sp with
          | true =>
            clear hsn heq hpn hput hless
            go_wp2_with (at_builtin; refine wpList_appendM rfl _ _ rfl w.heap.size _ so rfl hown2 _ _ x.data.toList g rfl hine (by omega) (by simp; omega) ?_; intro v1 w1 hown1 hg1; have hb1 := OwnM.grown hB1 (by simp; omega) hown2 hg1)
            go_roundw
            case rel => exact ⟨k + 1, by omega, by go_num, by rw [HSN.out], by rw [HSN.out]; exact hown1, hb1, by rw [HSN.out]; exact HPN.out⟩
            case measure => simp [intOf]; omega
          | false =>
            rw [decide_eq_true (lt_of_le_ne (List.not_lt.1 fun e => hput ⟨rfl, e⟩) (fun e => heq e.symm))] at hless
            clear hsn heq hpn hput
            go_wp2_with (at_builtin; refine wpList_appendM rfl _ _ rfl w.heap.size _ so rfl hown2 _ _ x.data.toList g rfl hine (by omega) (by simp; omega) ?_; intro v1 w1 hown1 hg1; have hb1 := OwnM.grown hB1 (by simp; omega) hown2 hg1)
            go_roundw
            case rel => exact ⟨k + 1, by omega, by go_num, by rw [HSN.out], by rw [HSN.out]; exact hown1, hb1, by rw [HSN.out]; exact HPN.out⟩
            case measure => simp [intOf]; omega
    · obtain rfl : k = M.length := by omega
      rw [List.take_length] at hown hpn hrl
      obtain ⟨s, hs⟩ : ∃ s, s = nmRun nm.data.toList f neg M := ⟨_, rfl⟩
      rw [List.take_length]
      rw [← hs] at hown hpn hrl ⊢
      have HF := Lib.hid (HFIN.out.1 s hs)
      have HNO := Lib.hid (fun e => HFIN.out.2 (hpn e))
      obtain ⟨so, sp⟩ := s
      simp only at hown hpn hrl HNO ⊢
      have hbs := hb.size
      clear hs hpn hmade hb0
      cases sp with
      | true =>
        have HF2 := Lib.hid (show putI nm.data.toList no M = so from HF.out)
        obtain ⟨p', c', rfl, _⟩ := hown.shape rfl
        go_wp2_with fail
        go_ret
        exact ⟨_, rfl, by rw [HF2.out]; exact hown, hb⟩
      | false =>
        have hno := HNO.out rfl
        subst hno
        have HF2 := Lib.hid (show putI nm.data.toList (f : Int) M = so ++ [(nm.data.toList, f)] from HF.out)
        have hown2 := hown.below ((Below.refl _ wr).alloc (Nat.le_refl _) (.cells #[.string nm, .int .i64 (f : Int)] 94))
        have hine := InE.one wr nm (.int .i64 (f : Int)) 94
        have hB1 := hb.alloc hbs (.cells #[.string nm, .int .i64 (f : Int)] 94)
        go_wp2_with (at_builtin; refine wpList_appendM rfl _ _ rfl w.heap.size _ so rfl hown2 _ _ nm.data.toList f rfl hine (by omega) (by simp; omega) ?_; intro v1 w1 hown1 hg1; have hb1 := OwnM.grown hB1 (by simp; omega) hown2 hg1)
        go_ret
        exact ⟨_, rfl, by rw [HF2.out]; exact hown1, hb1⟩
end Go.Proofs.YtnhfnfdmpcpcoaaDoor

/-
  The document's disk: Used, List, Read, renamed.
-/
namespace Go.Proofs.YtnhfnfdmpcpcoaaDoor
open Go.RowKit Go.Maps

theorem usedP_take (A : Pl) {k : Nat} (h : k < A.now.length) : ((A.now.take (k + 1)).map fun x => (datP A x.2).length).sum = ((A.now.take k).map fun x => (datP A x.2).length).sum + (datP A A.now[k].2).length := by
  rw [takes h, List.map_append, List.sum_append]
  simp
theorem usedP_take_le (A : Pl) (k : Nat) : ((A.now.take k).map fun x => (datP A x.2).length).sum ≤ usedP A := by
  unfold usedP
  conv => rhs; rw [← List.take_append_drop k A.now]
  rw [List.map_append, List.sum_append]
  omega
/-- the bytes of a file, as they lie in a state -/
theorem RefAt.dat {w : World} {r : RC} {A : Pl} (h : RefAt w r A) {i : Nat} (hi : i < A.files.length) :
    ∃ b o, r.p4 = some ⟨b, o, none⟩ ∧ ∃ q c, w.cell? ⟨b, o + i, none⟩ = some (.slice q (datP A i).length c) ∧ (datP A i).length ≤ maxLen ∧ In8 w q (datP A i) ∧ (q = none → c = 0) ∧ (datP A i).length ≤ c := by
  obtain ⟨b, o, e, v, hc, q, c, rfl, h1, h2, h3, h4⟩ := h.data.at (k := i) (by rw [List.length_map]; exact hi)
  rw [List.getElem_map] at hc h2 h3 h4
  have hd : datP A i = A.files[i].1 := by unfold datP; rw [List.getElem?_eq_getElem hi]; rfl
  rw [hd]
  exact ⟨b, o, e, q, c, hc, h2, h3, h1, h4⟩

set_option maxRecDepth 100000 in
set_option maxHeartbeats 2000000 in
theorem refUsed_any (r : RC) (A : Pl) (w : World) (h : RefAt w r A) (hl : A.now.length ≤ 4000000000000) (hf : ∀ x ∈ A.now, x.2 < A.files.length) (hu : usedP A ≤ 1000000000000000) :
    Calls Tryd.prog 40 #[.agg (stC r A)] w fun e w' => e = .returned (.int .i64 (usedP A)) ∧ Below w.heap.size w w' := by
  show Calls Tryd.prog 40 #[.agg #[.slice r.p1 A.now.length r.c1, .slice r.p2 A.safe.length r.c2, .slice r.p3 A.pend.length r.c3, .slice r.p4 A.files.length r.c4, .slice r.p5 A.files.length r.c5, .int .i64 (A.room : Int), .slice r.p6 A.fails.length r.c6, .int .i64 A.power, .int .i64 (A.steps : Int)]] w _
  go_enter Tryd.func40, Tryd.ntmps40
  go_wp2_with fail
  obtain ⟨wa, hwa⟩ : ∃ W0, W0 = w.alloc (.cells #[.slice r.p1 A.now.length r.c1, .slice r.p2 A.safe.length r.c2, .slice r.p3 A.pend.length r.c3, .slice r.p4 A.files.length r.c4, .slice r.p5 A.files.length r.c5, .int .i64 (A.room : Int), .slice r.p6 A.fails.length r.c6, .int .i64 A.power, .int .i64 (A.steps : Int)] 52) := ⟨_, rfl⟩
  have hc0 := fun i W (hb : Below wa.heap.size wa W) => by rw [hwa] at hb; exact box_cell hb i
  have hba := box_below w #[.slice r.p1 A.now.length r.c1, .slice r.p2 A.safe.length r.c2, .slice r.p3 A.pend.length r.c3, .slice r.p4 A.files.length r.c4, .slice r.p5 A.files.length r.c5, .int .i64 (A.room : Int), .slice r.p6 A.fails.length r.c6, .int .i64 A.power, .int .i64 (A.steps : Int)] 52
  rw [← hwa] at hba ⊢
  have HC := Lib.hid (fun W (hb : Below wa.heap.size wa W) => (show W.cell? ⟨w.heap.size, 0, none⟩ = some (.slice r.p1 A.now.length r.c1) ∧ W.cell? ⟨w.heap.size, 3, none⟩ = some (.slice r.p4 A.files.length r.c4) from ⟨hc0 0 W hb, hc0 3 W hb⟩))
  have HA0 := Lib.hid hba
  have HR := Lib.hid h
  clear hc0 hwa hba h
  go_loopw [3, 4] (fun v i wr => ∃ k : Nat, k ≤ A.now.length ∧ i = .int .i64 k ∧ v = .int .i64 ((((A.now.take k).map fun x => (datP A x.2).length).sum : Nat) : Int) ∧ Below wa.heap.size wa wr) (fun _ i _ => A.now.length - (intOf i).toNat)
  case atStart => exact ⟨0, Nat.zero_le _, rfl, rfl, Below.refl _ _⟩
  case round =>
    obtain ⟨k, hk, rfl, rfl, hb⟩ := hrel
    obtain ⟨c0, c3⟩ := HC.out wr hb
    have hbw := HA0.out.trans (hb.mono HA0.out.size)
    by_cases hlt : k < A.now.length
    · obtain ⟨b, o, hp, x, hx1, hx2, hx⟩ := (HR.out.below hbw).now.at hlt
      have hfl := hf _ (List.getElem_mem hlt)
      obtain ⟨b4, o4, hp4, q, c, hd, hdl, _⟩ := (HR.out.below hbw).dat hfl
      have hst := usedP_take A hlt
      have hle := usedP_take_le A (k + 1)
      rw [hp] at c0
      rw [hp4] at c3
      obtain ⟨l, hl2⟩ : ∃ l, l = (datP A A.now[k].2).length := ⟨_, rfl⟩
      obtain ⟨n0, hn0⟩ : ∃ n0, n0 = ((A.now.take k).map fun x => (datP A x.2).length).sum := ⟨_, rfl⟩
      rw [← hl2] at hst hd hdl
      rw [← hn0] at hst ⊢
      have hle2 : n0 + l ≤ 1000000000000000 := by omega
      have HST := Lib.hid hst
      have HB := Lib.hid hb
      generalize A.now[k].2 = f at hx2 hfl hd hl2
      clear hp hp4 hst hle hb hbw hl2 hn0 hx
      unfold maxLen at hdl
      go_wp2_with fail
      go_quiet (fail)
      go_wp2_with fail
      go_roundw
      case rel => exact ⟨k + 1, by omega, by go_num, by rw [HST.out]; go_num, bdrewN HB.out _⟩
      case measure => simp [intOf]; omega
    · obtain rfl : k = A.now.length := by omega
      have hu2 : ((A.now.take A.now.length).map fun x => (datP A x.2).length).sum = usedP A := by rw [List.take_length]; rfl
      rw [hu2]
      clear hu2
      go_wp2_with fail
      go_ret
      exact ⟨rfl, hbw⟩

/-- the nine cells of a state's box -/
theorem st9 {W : World} {b : Nat} {r : RC} {A : Pl} (h : W.heap[b]? = some (.cells (stC r A) 52 (0, 0))) :
    W.cell? ⟨b, 0, none⟩ = some (.slice r.p1 A.now.length r.c1) ∧ W.cell? ⟨b, 1, none⟩ = some (.slice r.p2 A.safe.length r.c2) ∧ W.cell? ⟨b, 2, none⟩ = some (.slice r.p3 A.pend.length r.c3) ∧ W.cell? ⟨b, 3, none⟩ = some (.slice r.p4 A.files.length r.c4) ∧ W.cell? ⟨b, 4, none⟩ = some (.slice r.p5 A.files.length r.c5) ∧ W.cell? ⟨b, 5, none⟩ = some (.int .i64 (A.room : Int)) ∧ W.cell? ⟨b, 6, none⟩ = some (.slice r.p6 A.fails.length r.c6) ∧ W.cell? ⟨b, 7, none⟩ = some (.int .i64 A.power) ∧ W.cell? ⟨b, 8, none⟩ = some (.int .i64 (A.steps : Int)) := by
  refine ⟨?_, ?_, ?_, ?_, ?_, ?_, ?_, ?_, ?_⟩ <;> (rw [cell_of_row _ _ _ _ _ _ h]; rfl)
theorem stBox {w W : World} {r : RC} {A : Pl} (hb : Below (w.alloc (.cells (stC r A) 52)).heap.size (w.alloc (.cells (stC r A) 52)) W) : W.heap[w.heap.size]? = some (.cells (stC r A) 52 (0, 0)) :=
  (hb.block w.heap.size (by simp)).trans (heap_alloc_new w _)

set_option maxRecDepth 100000 in
set_option maxHeartbeats 2000000 in
theorem refList_any (r : RC) (A : Pl) (w : World) (h : InN w r.p1 A.now) (hl : A.now.length ≤ 4000000000000) :
    Calls Tryd.prog 31 #[.agg (stC r A)] w fun e w' => ∃ p c, e = .returned (.slice p (listP A).length c) ∧ InS w' p (listP A) ∧ Below w.heap.size w w' := by
  have hdn := fun W => refDown_any r A W
  unfold stC at hdn
  show Calls Tryd.prog 31 #[.agg #[.slice r.p1 A.now.length r.c1, .slice r.p2 A.safe.length r.c2, .slice r.p3 A.pend.length r.c3, .slice r.p4 A.files.length r.c4, .slice r.p5 A.files.length r.c5, .int .i64 (A.room : Int), .slice r.p6 A.fails.length r.c6, .int .i64 A.power, .int .i64 (A.steps : Int)]] w _
  have HL := Lib.hid (show listP A = if downP A = true then [] else A.now.map (·.1) from rfl)
  obtain ⟨dn, hdn2⟩ : ∃ dn, dn = downP A := ⟨_, rfl⟩
  rw [← hdn2] at hdn HL
  clear hdn2
  go_enter Tryd.func31, Tryd.ntmps31
  go_wp2_with fail
  obtain ⟨wa, hwa⟩ : ∃ W0, W0 = w.alloc (.cells (stC r A) 52) := ⟨_, rfl⟩
  have hc0 := fun W (hb : Below wa.heap.size wa W) => by rw [hwa] at hb; exact st9 (stBox hb)
  have hba := box_below w (stC r A) 52
  rw [← hwa] at hba
  unfold stC at hwa
  have hmade : OwnS (wa.alloc (.cells #[] 9)) wa.heap.size (.slice (some ⟨wa.heap.size, 0, none⟩) 0 0) [] := OwnS.made wa
  have hbm := (Below.refl _ wa).alloc (Nat.le_refl _) (.cells #[] 9)
  have hsz : wa.heap.size = w.heap.size + 1 := by rw [hwa]; simp
  rw [← hsz, ← hwa]
  have HC := Lib.hid hc0
  have HA0 := Lib.hid hba
  clear hc0 hba hsz hwa
  go_loopw [3, 4] (fun v i wr => ∃ k : Nat, k ≤ A.now.length ∧ i = .int .i64 k ∧ OwnS wr wa.heap.size v ((A.now.take k).map (·.1)) ∧ Below wa.heap.size wa wr ∧ (dn = true → k = 0)) (fun _ i _ => A.now.length - (intOf i).toNat)
  case atStart => exact ⟨0, Nat.zero_le _, rfl, hmade, hbm, fun _ => rfl⟩
  case round =>
    obtain ⟨k, hk, rfl, hown, hb, hk0⟩ := hrel
    obtain ⟨c0, c1, c2, c3, c4, c5, c6, c7, c8⟩ := HC.out wr hb
    have hbw := HA0.out.trans (hb.mono HA0.out.size)
    by_cases hlt : k < A.now.length
    · obtain ⟨b, o, hp, x, hx1, hx2, hx⟩ := (h.below hbw).at hlt
      cases dn with
      | true =>
        obtain rfl := hk0 rfl
        have HO := Lib.hid (And.intro hown hbw)
        have HB := Lib.hid hb
        clear hown hbw hb hp hx1 hx2 hx hmade hbm
        go_wp2_with fail
        refine (hdn _).mono ?_
        rintro e w2 ⟨rfl, hb2⟩
        go_wp2_with fail
        obtain ⟨p, c, rfl, _, _, hin, _⟩ := HO.out.1.shape (n := 0) rfl
        go_ret
        exact ⟨p, c, by rw [HL.out]; rfl, by rw [HL.out]; exact hin.below hb2, HO.out.2.trans (hb2.mono HO.out.2.size)⟩
      | false =>
        rw [hp] at c0
        simp only [hp] at hdn
        have HO := Lib.hid (And.intro hown hx)
        have HB := Lib.hid hb
        clear hown hbw hb hx hmade hbm hp hk0
        go_wp2_with fail
        refine (hdn _).mono ?_
        rintro e w2 ⟨rfl, hb2⟩
        have hB2 := HB.out.trans (hb2.mono HB.out.size)
        have d0 := cell_keep c0 hb2
        have d1 := cell_keep hx1 hb2
        have hown2 := (HO.out.1.below hb2).below ((Below.refl _ w2).alloc (Nat.le_refl _) (.cells #[.string x] 9))
        have hin := InS.one w2 x
        have hB3 := hB2.alloc hB2.size (.cells #[.string x] 9)
        have hs2 := hB2.size
        have HB3 := Lib.hid hB3
        clear hb2 hB2 hB3
        go_wp2_with (at_builtin; refine wpList_appendS rfl _ _ rfl wa.heap.size _ _ rfl hown2 _ _ _ _ rfl rfl hin (by simp; omega) (by simp; omega) ?_; intro v1 w3 hown3 hgrow3 _; have hB4 := OwnS.grown HB3.out (by simp; omega) hown2 hgrow3)
        go_roundw
        case rel => exact ⟨k + 1, by omega, by go_num, by rw [takes hlt, List.map_append, List.map_cons, List.map_nil, ← HO.out.2]; exact hown3, hB4, fun e => by cases e⟩
        case measure => simp [intOf]; omega
    · obtain rfl : k = A.now.length := by omega
      rw [List.take_length] at hown
      have HLL : Hid (listP A = A.now.map (·.1)) := Lib.hid (by
        rw [HL.out]
        cases dn with
        | false => rfl
        | true =>
          have := hk0 rfl
          rw [if_pos rfl, List.eq_nil_of_length_eq_zero this]; rfl)
      obtain ⟨p, c, rfl, _, _, hin, _⟩ := hown.shape (n := A.now.length) (by simp)
      go_wp2_with fail
      go_ret
      exact ⟨p, c, by rw [HLL.out, List.length_map]; rfl, by rw [HLL.out]; exact hin, hbw⟩
end Go.Proofs.YtnhfnfdmpcpcoaaDoor

/-
  The document's disk: renamed: the state with other names.
-/
namespace Go.Proofs.YtnhfnfdmpcpcoaaDoor
open Go.RowKit Go.Maps

theorem infoNs : (Tryd.prog.info? 49).map (fun i => (i.zero, i.size, i.bytes)) = some (some (.slice none 0 0), 1, 24) := by kernel_rfl
theorem infoB9 : (Tryd.prog.info? 26).map (fun i => (i.zero, i.size, i.bytes)) = some (some (.slice none 0 0), 1, 24) := by kernel_rfl
def zeroSt : Array Value := #[.slice none 0 0, .slice none 0 0, .slice none 0 0, .slice none 0 0, .slice none 0 0, .int .i64 0, .slice none 0 0, .int .i64 0, .int .i64 0]

set_option maxRecDepth 100000 in
set_option maxHeartbeats 4000000 in
theorem refRenamed_any (r : RC) (n0 n2 n4 n5 n6 : Nat) (room power steps : Int) (q : Option Addr) (m c : Nat) (w : World) (n : Nat) (vs : List Value) (hvl : vs.length = n) (hvs : InV w r.p3 vs) (hv1 : ∀ u ∈ vs, u.oneCell' = true) (hp : n ≤ 1000000000000) :
    Calls Tryd.prog 55 #[.agg #[.slice r.p1 n0 r.c1, .slice r.p2 n2 r.c2, .slice r.p3 n r.c3, .slice r.p4 n4 r.c4, .slice r.p5 n5 r.c5, .int .i64 room, .slice r.p6 n6 r.c6, .int .i64 power, .int .i64 steps], .slice q m c] w fun e w' =>
      ∃ p3 c3, e = .returned (.agg #[.slice q m c, .slice r.p2 n2 r.c2, .slice p3 (n + 1) c3, .slice r.p4 n4 r.c4, .slice r.p5 n5 r.c5, .int .i64 room, .slice r.p6 n6 r.c6, .int .i64 power, .int .i64 steps]) ∧ w'.ownsRow w.heap.size 49 1 (.slice p3 (n + 1) c3) (n + 1) (vs ++ [.slice q m c]) ∧ Below w.heap.size w w' := by
  subst hvl
  obtain ⟨wa, hwa⟩ : ∃ x, x = ((w.alloc (.cells #[.slice q m c, .slice r.p2 n2 r.c2, .slice r.p3 vs.length r.c3, .slice r.p4 n4 r.c4, .slice r.p5 n5 r.c5, .int .i64 room, .slice r.p6 n6 r.c6, .int .i64 power, .int .i64 steps] 52)).alloc (.cells #[.slice none 0 0, .slice none 0 0, .slice none 0 0, .slice none 0 0, .slice none 0 0, .int .i64 0, .slice none 0 0, .int .i64 0, .int .i64 0] 52)).alloc (.cells #[] 49) := ⟨_, rfl⟩
  have hba : Below w.heap.size w wa := by rw [hwa]; exact (((Below.refl _ w).alloc (Nat.le_refl _) _).alloc (by simp) _).alloc (by simp; omega) _
  have hsa : wa.heap.size = w.heap.size + 3 := by rw [hwa]; simp
  have g0 : wa.heap[w.heap.size]? = some (.cells #[.slice q m c, .slice r.p2 n2 r.c2, .slice r.p3 vs.length r.c3, .slice r.p4 n4 r.c4, .slice r.p5 n5 r.c5, .int .i64 room, .slice r.p6 n6 r.c6, .int .i64 power, .int .i64 steps] 52 (0, 0)) := by
    rw [hwa]
    exact (heap_alloc_old _ _ (by simp; omega)).trans ((heap_alloc_old _ _ (by simp)).trans (heap_alloc_new w _))
  have g1 : wa.heap[w.heap.size + 1]? = some (.cells #[.slice none 0 0, .slice none 0 0, .slice none 0 0, .slice none 0 0, .slice none 0 0, .int .i64 0, .slice none 0 0, .int .i64 0, .int .i64 0] 52 (0, 0)) := by
    rw [hwa]
    have := heap_alloc_new (w.alloc (.cells #[.slice q m c, .slice r.p2 n2 r.c2, .slice r.p3 vs.length r.c3, .slice r.p4 n4 r.c4, .slice r.p5 n5 r.c5, .int .i64 room, .slice r.p6 n6 r.c6, .int .i64 power, .int .i64 steps] 52)) (.cells #[.slice none 0 0, .slice none 0 0, .slice none 0 0, .slice none 0 0, .slice none 0 0, .int .i64 0, .slice none 0 0, .int .i64 0, .int .i64 0] 52)
    rw [World.size_alloc] at this
    exact (heap_alloc_old _ _ (by simp)).trans this
  have hown0 : wa.ownsRow (w.heap.size + 2) 49 1 (.slice (some ⟨w.heap.size + 1 + 1, 0, none⟩) 0 0) 0 [] := by
    refine ⟨rfl, .inr ⟨w.heap.size + 1 + 1, 0, #[], rfl, by omega, ?_, by simp, by unfold maxLen; omega, rfl, rfl⟩⟩
    rw [hwa]
    have := heap_alloc_new ((w.alloc (.cells #[.slice q m c, .slice r.p2 n2 r.c2, .slice r.p3 vs.length r.c3, .slice r.p4 n4 r.c4, .slice r.p5 n5 r.c5, .int .i64 room, .slice r.p6 n6 r.c6, .int .i64 power, .int .i64 steps] 52)).alloc (.cells #[.slice none 0 0, .slice none 0 0, .slice none 0 0, .slice none 0 0, .slice none 0 0, .int .i64 0, .slice none 0 0, .int .i64 0, .int .i64 0] 52)) (.cells #[] 49)
    rw [World.size_alloc, World.size_alloc] at this
    exact this
  have hs := srcV (c := r.c3) (e := 49) Tryd.underlying50 (hvs.below hba) hv1
  have HC := Lib.hid (And.intro hba (And.intro hsa (And.intro g0 (And.intro g1 hwa))))
  rw [hwa] at hs hown0
  clear hba hsa g0 g1 hwa
  go_enter Tryd.func55, Tryd.ntmps55
  go_wp2_with (first
    | (at_builtin; (
       refine wpList_append_way _ rfl _ _ 50 50 rfl (w.heap.size + 2) 49 (.slice none 0 0) 1 24 Tryd.underlying50 infoNs rfl _ 0 [] rfl hown0 _ vs.length vs rfl hs (by unfold maxLen; omega) (by omega) (by simp) ?_
       intro v1 w1 hown1 hgrow1 _
       rw [← HC.out.2.2.2.2] at hgrow1
       rw [List.nil_append, Nat.zero_add] at hown1
       obtain ⟨hba, hsa, g0, g1, _⟩ := HC.out
       have k0 := (hgrow1.block w.heap.size (by omega) (fun e => by have := Option.some.inj (show some w.heap.size = some (w.heap.size + 1 + 1) from e); omega)).trans g0
       have k1 := (hgrow1.block (w.heap.size + 1) (by omega) (fun e => by have := Option.some.inj (show some (w.heap.size + 1) = some (w.heap.size + 1 + 1) from e); omega)).trans g1
       have hb1 : Below w.heap.size w w1 := hba.grown hgrow1 hba.size (fun k e => by have := Option.some.inj (show some (w.heap.size + 1 + 1) = some k from e); omega)
       have hs1 := hgrow1.size
       obtain ⟨w2, hw2⟩ : ∃ x, x = w1.alloc (.cells #[.slice q m c] 49) := ⟨_, rfl⟩
       have hown2 : w2.ownsRow (w.heap.size + 2) 49 1 v1 vs.length vs := by rw [hw2]; exact hown1.alloc _
       have hb2 : Below w.heap.size w w2 := by rw [hw2]; exact hb1.alloc hb1.size _
       have l0 := (heap_alloc_old w1 (.cells #[.slice q m c] 49) (lt_of_heap k0)).trans k0
       have l1 := (heap_alloc_old w1 (.cells #[.slice q m c] 49) (lt_of_heap k1)).trans k1
       rw [← hw2] at l0 l1
       have hsrc : Src Tryd.prog 1 50 (.slice (some ⟨w1.heap.size, 0, none⟩) 1 1) 1 [.slice q m c] w2 := by
         have := srcV (c := 1) (e := 49) (xs := [.slice q m c]) Tryd.underlying50 (InV.one w1 (.slice q m c) 49) (fun u hu => by rw [List.mem_singleton.1 hu]; rfl)
         rw [hw2]; exact this
       have hsz2 : w.heap.size + 2 ≤ w2.heap.size := by rw [hw2]; simp; omega
       have H2 := Lib.hid (And.intro hown2 (And.intro hb2 (And.intro l0 (And.intro l1 hsz2))))
       rw [hw2] at hsrc hown2 hsz2
       have HW2 := Lib.hid hw2
       clear hw2 hb2 l0 l1 hown1 hgrow1 hba hsa g0 g1 k0 k1 hb1 hs1))
    | (at_builtin; (
       refine wpList_append_way _ rfl _ _ 50 50 rfl (w.heap.size + 2) 49 (.slice none 0 0) 1 24 Tryd.underlying50 infoNs rfl _ vs.length vs rfl hown2 _ 1 [.slice q m c] rfl hsrc (by unfold maxLen; omega) (by omega) hsz2 ?_
       intro v3 w3 hown3 hgrow3 _
       rw [← HW2.out] at hgrow3
       obtain ⟨hown2', hb2, l0, l1, hsz2'⟩ := H2.out
       have n0 := (hgrow3.block w.heap.size (lt_of_heap l0) (fun e => by have := (World.ownsRow.lt hown2' _ e.symm).1; omega)).trans l0
       have n1 := (hgrow3.block (w.heap.size + 1) (lt_of_heap l1) (fun e => by have := (World.ownsRow.lt hown2' _ e.symm).1; omega)).trans l1
       have hb3 : Below w.heap.size w w3 := hb2.grown hgrow3 hb2.size (fun k e => by have := (World.ownsRow.lt hown2' _ e).1; omega)
       have HG := Lib.hid (And.intro hown3 hb3)
       have HN := Lib.hid (And.intro n0 n1)
       have f0 := fun i => frozen_of_row w3 w.heap.size i _ _ n0
       have f1 := fun i => frozen_of_row w3 (w.heap.size + 1) i _ _ n1
       have c0 := fun i => cell_of_row w3 w.heap.size i _ _ _ n0
       have c1 := fun i => cell_of_row w3 (w.heap.size + 1) i _ _ _ n1
       obtain ⟨p3, c3, rfl, _, _, _, _⟩ := owns_shape hown3
       clear hown3 hgrow3 hown2' hb2 l0 l1 hsz2' n0 n1 hb3)))
  obtain ⟨hown3, hb3⟩ := HG.out
  obtain ⟨n0, n1⟩ := HN.out
  refine bodyPost_ret (v := .agg #[.slice q m c, .slice r.p2 n2 r.c2, .slice p3 (vs.length + 1) c3, .slice r.p4 n4 r.c4, .slice r.p5 n5 r.c5, .int .i64 room, .slice r.p6 n6 r.c6, .int .i64 power, .int .i64 steps]) (by simp [results, Tryd.results55, go_sem, c1]) rfl ⟨_, _, rfl, ?_, ?_⟩
  · have hlt := fun (a : Addr) (v : Value) => fun (W : World) (h : W.ownsRow (w.heap.size + 2) 49 1 (.slice p3 (vs.length + 1) c3) (vs.length + 1) (vs ++ [.slice q m c])) (ha : a.block < w.heap.size + 2) => ownsRow_setCell_below h ha v
    refine ownsRow_mono ?_ (show w.heap.size ≤ w.heap.size + 2 by omega)
    exact hlt ⟨w.heap.size + 1, 8, none⟩ _ _ (hlt ⟨w.heap.size + 1, 7, none⟩ _ _ (hlt ⟨w.heap.size + 1, 6, none⟩ _ _ (hlt ⟨w.heap.size + 1, 5, none⟩ _ _ (hlt ⟨w.heap.size + 1, 4, none⟩ _ _ (hlt ⟨w.heap.size + 1, 3, none⟩ _ _ (hlt ⟨w.heap.size + 1, 2, none⟩ _ _ (hlt ⟨w.heap.size + 1, 1, none⟩ _ _ (hlt ⟨w.heap.size + 1, 0, none⟩ _ _ (hlt ⟨w.heap.size, 2, none⟩ _ _ hown3 (by simp)) (by simp)) (by simp)) (by simp)) (by simp)) (by simp)) (by simp)) (by simp)) (by simp)) (by simp)
  · have hlt := fun (a : Addr) (v : Value) => fun (W : World) (h : Below w.heap.size w W) (ha : w.heap.size ≤ a.block) => h.setCell (p := a) ha v
    exact hlt ⟨w.heap.size + 1, 8, none⟩ _ _ (hlt ⟨w.heap.size + 1, 7, none⟩ _ _ (hlt ⟨w.heap.size + 1, 6, none⟩ _ _ (hlt ⟨w.heap.size + 1, 5, none⟩ _ _ (hlt ⟨w.heap.size + 1, 4, none⟩ _ _ (hlt ⟨w.heap.size + 1, 3, none⟩ _ _ (hlt ⟨w.heap.size + 1, 2, none⟩ _ _ (hlt ⟨w.heap.size + 1, 1, none⟩ _ _ (hlt ⟨w.heap.size + 1, 0, none⟩ _ _ (hlt ⟨w.heap.size, 2, none⟩ _ _ hb3 (by simp)) (by simp)) (by simp)) (by simp)) (by simp)) (by simp)) (by simp)) (by simp)) (by simp)) (by simp)
end Go.Proofs.YtnhfnfdmpcpcoaaDoor

/-
  The document's disk: the boxes of a step, and what a state becomes: the plain part.
-/
namespace Go.Proofs.YtnhfnfdmpcpcoaaDoor
open Go.RowKit Go.Maps

/-- the boxes of a step: the state, the op, the result -/
structure Fr (w W : World) (cs os : Array Value) : Prop where
  s : W.heap[w.heap.size]? = some (.cells cs 52 (0, 0))
  o : W.heap[w.heap.size + 1]? = some (.cells os 57 (0, 0))
  z : W.heap[w.heap.size + 2]? = some (.cells #[.slice none 0 0, .slice none 0 0, .slice none 0 0, .slice none 0 0, .slice none 0 0, .int .i64 0, .slice none 0 0, .int .i64 0, .int .i64 0] 52 (0, 0))
  b : Below w.heap.size w W
theorem Fr.size {w W : World} {cs os : Array Value} (h : Fr w W cs os) : w.heap.size + 3 ≤ W.heap.size := lt_of_heap h.z
theorem Fr.below {w W W' : World} {cs os : Array Value} (h : Fr w W cs os) (hb : Below W.heap.size W W') : Fr w W' cs os :=
  ⟨(hb.block _ (lt_of_heap h.s)).trans h.s, (hb.block _ (lt_of_heap h.o)).trans h.o, (hb.block _ (lt_of_heap h.z)).trans h.z, h.b.trans (hb.mono h.b.size)⟩
theorem Fr.set {w W : World} {cs os : Array Value} (h : Fr w W cs os) (i : Nat) (v : Value) : Fr w (W.setCell ⟨w.heap.size, i, none⟩ v) (cs.setIfInBounds i v) os :=
  ⟨heap_setCell_same _ _ _ _ _ _ h.s, (heap_setCell_other _ _ _ _ (by simp)).trans h.o, (heap_setCell_other _ _ _ _ (by simp)).trans h.z, h.b.setCell (p := ⟨w.heap.size, i, none⟩) (Nat.le_refl _) _⟩
theorem Fr.start (w : World) (cs os : Array Value) : Fr w (((w.alloc (.cells cs 52)).alloc (.cells os 57)).alloc (.cells #[.slice none 0 0, .slice none 0 0, .slice none 0 0, .slice none 0 0, .slice none 0 0, .int .i64 0, .slice none 0 0, .int .i64 0, .int .i64 0] 52)) cs os := by
  refine ⟨?_, ?_, ?_, (((Below.refl _ w).alloc (Nat.le_refl _) _).alloc (by simp) _).alloc (by simp; omega) _⟩
  · exact (heap_alloc_old _ _ (by simp; omega)).trans ((heap_alloc_old _ _ (by simp)).trans (heap_alloc_new w _))
  · have := heap_alloc_new (w.alloc (.cells cs 52)) (.cells os 57)
    rw [World.size_alloc] at this
    exact (heap_alloc_old _ _ (by simp)).trans this
  · have := heap_alloc_new ((w.alloc (.cells cs 52)).alloc (.cells os 57)) (.cells #[.slice none 0 0, .slice none 0 0, .slice none 0 0, .slice none 0 0, .slice none 0 0, .int .i64 0, .slice none 0 0, .int .i64 0, .int .i64 0] 52)
    rw [World.size_alloc, World.size_alloc] at this
    exact this
theorem st9v {W : World} {b : Nat} {T : TypeId} {a0 a1 a2 a3 a4 a5 a6 a7 a8 : Value} (h : W.heap[b]? = some (.cells #[a0, a1, a2, a3, a4, a5, a6, a7, a8] T (0, 0))) :
    W.cell? ⟨b, 0, none⟩ = some a0 ∧ W.cell? ⟨b, 1, none⟩ = some a1 ∧ W.cell? ⟨b, 2, none⟩ = some a2 ∧ W.cell? ⟨b, 3, none⟩ = some a3 ∧ W.cell? ⟨b, 4, none⟩ = some a4 ∧ W.cell? ⟨b, 5, none⟩ = some a5 ∧ W.cell? ⟨b, 6, none⟩ = some a6 ∧ W.cell? ⟨b, 7, none⟩ = some a7 ∧ W.cell? ⟨b, 8, none⟩ = some a8 ∧ ∀ i, W.frozen? ⟨b, i, none⟩ = false := by
  refine ⟨?_, ?_, ?_, ?_, ?_, ?_, ?_, ?_, ?_, fun i => frozen_of_row W b i _ _ h⟩ <;> (rw [cell_of_row _ _ _ _ _ _ h]; rfl)
theorem op4v {W : World} {b : Nat} {T : TypeId} {a0 a1 a2 a3 : Value} (h : W.heap[b]? = some (.cells #[a0, a1, a2, a3] T (0, 0))) :
    W.cell? ⟨b, 0, none⟩ = some a0 ∧ W.cell? ⟨b, 1, none⟩ = some a1 ∧ W.cell? ⟨b, 2, none⟩ = some a2 ∧ W.cell? ⟨b, 3, none⟩ = some a3 := by
  refine ⟨?_, ?_, ?_, ?_⟩ <;> (rw [cell_of_row _ _ _ _ _ _ h]; rfl)
/-- nine cells written -/
def put9 (W : World) (b : Nat) (v0 v1 v2 v3 v4 v5 v6 v7 v8 : Value) : World :=
  ((((((((W.setCell ⟨b, 0, none⟩ v0).setCell ⟨b, 1, none⟩ v1).setCell ⟨b, 2, none⟩ v2).setCell ⟨b, 3, none⟩ v3).setCell ⟨b, 4, none⟩ v4).setCell ⟨b, 5, none⟩ v5).setCell ⟨b, 6, none⟩ v6).setCell ⟨b, 7, none⟩ v7).setCell ⟨b, 8, none⟩ v8
section
variable {W : World} {b : Nat} {v0 v1 v2 v3 v4 v5 v6 v7 v8 : Value}
theorem put9_heap (k : Nat) (h : k ≠ b) : (put9 W b v0 v1 v2 v3 v4 v5 v6 v7 v8).heap[k]? = W.heap[k]? := by
  unfold put9
  repeat rw [heap_setCell_other _ _ _ _ h]
theorem put9_below {w : World} (hb : Below w.heap.size w W) (h : w.heap.size ≤ b) : Below w.heap.size w (put9 W b v0 v1 v2 v3 v4 v5 v6 v7 v8) := by
  unfold put9
  have hlt := fun (a : Addr) (v : Value) => fun (W : World) (h : Below w.heap.size w W) (ha : w.heap.size ≤ a.block) => h.setCell (p := a) ha v
  exact hlt ⟨b, 8, none⟩ _ _ (hlt ⟨b, 7, none⟩ _ _ (hlt ⟨b, 6, none⟩ _ _ (hlt ⟨b, 5, none⟩ _ _ (hlt ⟨b, 4, none⟩ _ _ (hlt ⟨b, 3, none⟩ _ _ (hlt ⟨b, 2, none⟩ _ _ (hlt ⟨b, 1, none⟩ _ _ (hlt ⟨b, 0, none⟩ _ _ hb h) h) h) h) h) h) h) h) h
theorem put9_size : (put9 W b v0 v1 v2 v3 v4 v5 v6 v7 v8).heap.size = W.heap.size := by
  unfold put9
  simp
theorem put9_same {x0 x1 x2 x3 x4 x5 x6 x7 x8 : Value} {T : TypeId} (h : W.heap[b]? = some (.cells #[x0, x1, x2, x3, x4, x5, x6, x7, x8] T (0, 0))) : (put9 W b v0 v1 v2 v3 v4 v5 v6 v7 v8).heap[b]? = some (.cells #[v0, v1, v2, v3, v4, v5, v6, v7, v8] T (0, 0)) := by
  unfold put9
  have := heap_setCell_same _ b 8 _ T v8 (heap_setCell_same _ b 7 _ T v7 (heap_setCell_same _ b 6 _ T v6 (heap_setCell_same _ b 5 _ T v5 (heap_setCell_same _ b 4 _ T v4 (heap_setCell_same _ b 3 _ T v3 (heap_setCell_same _ b 2 _ T v2 (heap_setCell_same _ b 1 _ T v1 (heap_setCell_same _ b 0 _ T v0 h))))))))
  rw [this]
  simp
end
theorem Fr.grown {w W W' : World} {cs os : Array Value} {row : Option Nat} (h : Fr w W cs os) (hg : W.grownBy W' row) (hr : ∀ g, row = some g → w.heap.size + 3 ≤ g) : Fr w W' cs os :=
  ⟨(hg.block _ (lt_of_heap h.s) fun e => by have := hr _ e.symm; omega).trans h.s, (hg.block _ (lt_of_heap h.o) fun e => by have := hr _ e.symm; omega).trans h.o, (hg.block _ (lt_of_heap h.z) fun e => by have := hr _ e.symm; omega).trans h.z, h.b.grown hg h.b.size fun g e => by have := hr g e; omega⟩
theorem Fr.alloc {w W : World} {cs os : Array Value} (h : Fr w W cs os) (o : Obj) : Fr w (W.alloc o) cs os := h.below ((Below.refl _ W).alloc (Nat.le_refl _) o)
/-- a state whose count, files' bytes, names or pending names turn -/
theorem RefP.parts {P : Nat → Prop} {w : World} {r : RC} {A : Pl} (h : RefP P w r A) {r' : RC} {A' : Pl} (hr : ∀ g, IsMask P w g → RefAt g r A → RefAt g r' A') : RefP P w r' A' := by
  obtain ⟨g, h1, h2⟩ := h
  exact ⟨g, h1, hr g h1 h2⟩
theorem RefAt.steps {g : World} {r : RC} {A : Pl} (h : RefAt g r A) (n : Nat) : RefAt g r { A with steps := n } := ⟨h.now, h.safe, h.pend, h.data, h.firm, h.fails⟩
theorem pendN_chg {A : Pl} (hI : Inv A) (c : Chg) (A' : Pl) (hs : A'.safe = A.safe) (hp : A'.pend = A.pend ++ [c]) : pendN A' = pendN A ++ [applyC c A.now] := by
  have e : pendN A' = (List.range (A.pend.length + 1)).map fun i => ((A.pend ++ [c]).take (i + 1)).foldl (fun M c => applyC c M) A.safe := by
    unfold pendN
    rw [hs, hp, List.length_append]
    rfl
  rw [e, List.range_succ, List.map_append]
  congr 1
  · unfold pendN
    refine List.map_congr_left fun i hi => ?_
    have := List.mem_range.1 hi
    rw [List.take_append_of_le_length (by omega)]
  · rw [List.map_cons, List.map_nil, List.take_of_length_le (by simp), List.foldl_append, hI.fold]
    rfl
theorem InR.snoc {α : Type} {R : World → Value → α → Prop} {g : World} {p' : Option Addr} {L : List α} {vs : List Value} {v : Value} {x : α} (h2 : vs.length = L.length) (h3 : ∀ (i : Nat) (v : Value) (x : α), vs[i]? = some v → L[i]? = some x → R g v x) (h1 : InV g p' (vs ++ [v])) (hv : R g v x) : InR R g p' (L ++ [x]) := by
  refine ⟨vs ++ [v], h1, by simp [h2], fun i u y hu hy => ?_⟩
  by_cases hi : i < vs.length
  · rw [List.getElem?_append_left hi] at hu
    rw [List.getElem?_append_left (by omega)] at hy
    exact h3 i u y hu hy
  · have hlt := (List.getElem?_eq_some_iff.1 hu).1
    rw [List.length_append] at hlt
    simp only [List.length_cons, List.length_nil] at hlt
    obtain rfl : i = vs.length := by omega
    rw [List.getElem?_append_right (Nat.le_refl _)] at hu
    rw [List.getElem?_append_right (by omega)] at hy
    simp only [Nat.sub_self, h2, List.getElem?_cons_zero, Option.some.injEq] at hu hy
    subst hu hy
    exact hv
theorem InR.put {α : Type} {R : World → Value → α → Prop} {g : World} {p' : Option Addr} {L : List α} {vs : List Value} {v : Value} {x : α} {k : Nat} (h2 : vs.length = L.length) (h3 : ∀ (i : Nat) (v : Value) (x : α), vs[i]? = some v → L[i]? = some x → R g v x) (h1 : InV g p' (vs.set k v)) (hv : R g v x) : InR R g p' (L.set k x) := by
  refine ⟨vs.set k v, h1, by simp [h2], fun i u y hu hy => ?_⟩
  rw [List.getElem?_set] at hu hy
  by_cases hi : k = i
  · subst hi
    rw [if_pos rfl] at hu hy
    split at hu
    · rename_i h4
      rw [if_pos (by omega)] at hy
      obtain rfl := Option.some.inj hu
      obtain rfl := Option.some.inj hy
      exact hv
    · cases hu
  · rw [if_neg hi] at hu hy
    exact h3 i u y hu hy
theorem ownsRow_put9 {W : World} {b : Nat} {v0 v1 v2 v3 v4 v5 v6 v7 v8 : Value} {base e size n : Nat} {v : Value} {xs : List Value} (h : W.ownsRow base e size v n xs) (hb : b < base) : (put9 W b v0 v1 v2 v3 v4 v5 v6 v7 v8).ownsRow base e size v n xs := by
  refine ⟨h.1, ?_⟩
  rcases h.2 with h0 | ⟨k, cap, cur, e, c1, c2, r⟩
  · exact .inl h0
  · exact .inr ⟨k, cap, cur, e, c1, (put9_heap k (by omega)).trans c2, r⟩
/-- other names, and the names behind one change more -/
theorem RefAt.chg {g g' : World} {r r' : RC} {A A' : Pl} {vsP : List Value} {M : NM} {v : Value} (hr : RefAt g r A) (hk : Keeps g g') (hI : Inv A) (c : Chg) (hs : A'.safe = A.safe) (hp : A'.pend = A.pend ++ [c]) (hn : A'.now = M) (hM : applyC c A.now = M) (hf : A'.fails = A.fails)
    (e2 : r'.p2 = r.p2) (e6 : r'.p6 = r.p6) (hnow : InN g' r'.p1 M) (hv : NamV g' v M)
    (hP2 : vsP.length = A.pend.length) (hP3 : ∀ (i : Nat) (v : Value) (x : NM), vsP[i]? = some v → (pendN A)[i]? = some x → NamV g v x) (hP : InV g' r'.p3 (vsP ++ [v]))
    (hdata : InDs g' r'.p4 (A'.files.map (·.1))) (hfirm : InV g' r'.p5 (A'.files.map fun f => .int .i64 (f.2 : Int))) : RefAt g' r' A' where
  now := by rw [hn]; exact hnow
  safe := by rw [hs, e2]; exact hr.safe.keeps hk
  pend := by
    rw [pendN_chg hI c A' hs hp, hM]
    exact InR.snoc (by rw [pendN_length]; exact hP2) (fun i u x hu hx => (hP3 i u x hu hx).keeps hk) hP hv
  data := hdata
  firm := hfirm
  fails := by rw [hf, e6]; exact hr.fails.keeps hk
end Go.Proofs.YtnhfnfdmpcpcoaaDoor

/-
  The document's disk: Step: what its ways share.
-/
namespace Go.Proofs.YtnhfnfdmpcpcoaaDoor
open Go.RowKit Go.Maps

def RStep (P : Nat → Prop) (w : World) (A : Pl) (o : Opp) : Ending → World → Prop := fun e w' =>
  ∃ r', e = .returned (.tuple #[.agg (stC r' (doP A o).1), .int .i64 (doP A o).2]) ∧ RefP P w' r' (doP A o).1 ∧ Below w.heap.size w w'

def tk (A : Pl) : Pl := { A with steps := A.steps + 1 }
theorem RStep.same {P : Nat → Prop} {w W : World} {A A' : Pl} {o : Opp} {r : RC} {z : Int} (h : RefP P w r A') (hb : Below w.heap.size w W) (hD : doP A o = (A', z)) (v0 v1 v2 v3 v4 v5 v6 v7 v8 : Value) :
    RStep P w A o (.returned (.tuple #[.agg (stC r A'), .int .i64 z])) (put9 W (w.heap.size + 2) v0 v1 v2 v3 v4 v5 v6 v7 v8) := by
  unfold RStep
  rw [hD]
  exact ⟨r, rfl, h.below (put9_below hb (by omega)), put9_below hb (by omega)⟩
theorem RStep.mk {P : Nat → Prop} {w W : World} {A A' : Pl} {o : Opp} {r : RC} {z : Int} {cs : Array Value} (h : RefP P W r A') (hb : Below w.heap.size w W) (hD : doP A o = (A', z)) (hc : stC r A' = cs) :
    RStep P w A o (.returned (.tuple #[.agg cs, .int .i64 z])) W := by
  unfold RStep
  rw [hD]
  exact ⟨r, by rw [hc], h, hb⟩
theorem ownR_made (e : TypeId) (w : World) : (w.alloc (.cells #[] e)).ownsRow w.heap.size e 1 (.slice (some ⟨w.heap.size, 0, none⟩) 0 0) 0 [] :=
  ⟨rfl, .inr ⟨w.heap.size, 0, #[], rfl, Nat.le_refl _, heap_alloc_new w _, by simp, by unfold maxLen; omega, rfl, rfl⟩⟩
theorem apart_kept {w w' : World} {base e size n : Nat} {v : Value} {xs : List Value} {row : Option Nat} (h : w.ownsRow base e size v n xs) (hg : w.grownBy w' row) (hne : ∀ g, v.ownBlock = some g → row = some g → False) : w'.ownsRow base e size v n xs :=
  h.kept hg (by
    cases hb : v.ownBlock with
    | none => exact .inl rfl
    | some g => exact .inr fun e => hne g hb e.symm)
theorem own_form9 {w : World} {base size n : Nat} {e : TypeId} {v : Value} {xs : List Value} (h : w.ownsRow base e size v n xs) (hn : 0 < n) : ∃ g cap, v = .slice (some ⟨g, 0, none⟩) n cap := by
  rcases h.2 with ⟨_, h0⟩ | ⟨g, cap, _, hv, _⟩
  · omega
  · exact ⟨g, cap, hv⟩
theorem contains_take {Z : List Int} {k : Nat} (h : k < Z.length) {x : Int} (hk : (Z.take k).contains x = false) (hx : Z[k] ≠ x) : (Z.take (k + 1)).contains x = false := by
  rw [takes h, List.contains_eq_any_beq, List.any_append]
  rw [List.contains_eq_any_beq] at hk
  rw [hk]
  simp
  exact fun e => hx e.symm
theorem contains_at {Z : List Int} {k : Nat} (h : k < Z.length) {x : Int} (hx : Z[k] = x) : Z.contains x = true := by
  rw [← hx]
  simp

end Go.Proofs.YtnhfnfdmpcpcoaaDoor
