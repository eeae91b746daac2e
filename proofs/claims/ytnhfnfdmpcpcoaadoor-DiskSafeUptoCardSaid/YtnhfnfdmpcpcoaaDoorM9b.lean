/-
  Chapter 9, texts merged: DiskAt, DiskRead, Begin, DiskSet, BeginD, OnD, DiskFile, DiskTurn, Pairs, AppendW, Alter, DiskAdd, UsedLaw, SyncD, PlainD.
-/
import Derived.Test.YtnhfnfdmpcpcoaaDoorM9a
import Derived.Lib.Builder
import Derived.Deep.QuietTactic
import Derived.BigQuiet
import Derived.Maps.RangeWalk

/-
  What a disk is in the heap.
-/
namespace Go.Proofs.YtnhfnfdmpcpcoaaDoor
open Go.RowKit Go.Maps

/-- a change of names -/
inductive Chg where
  | put (k : BS) (f : Nat)
  | ren (a k : BS) (f : Nat)
  | del (k : BS)
def applyC : Chg → NM → NM
  | .put k f, M => insN k f M
  | .ren a k f, M => insN k f (delN a M)
  | .del k, M => delN k M
/-- the closure that stands for a change -/
def IsChg (w : World) (v : Value) : Chg → Prop
  | .put k f => ∃ bf bk, ∃ nm : ByteArray, nm.data.toList = k ∧ nm.size ≤ maxLen ∧ v = .func (.func 44) #[] #[.pointer (some ⟨bf, 0, none⟩), .pointer (some ⟨bk, 0, none⟩)] ∧
      w.heap[bf]? = some (.cells #[.pointer (some ⟨f, 0, none⟩)] 75 (0, 0)) ∧ w.heap[bk]? = some (.cells #[.string nm] 9 (0, 0))
  | .ren a k f => ∃ ba bf bk, ∃ na nm : ByteArray, na.data.toList = a ∧ nm.data.toList = k ∧ na.size ≤ maxLen ∧ nm.size ≤ maxLen ∧ v = .func (.func 66) #[] #[.pointer (some ⟨ba, 0, none⟩), .pointer (some ⟨bf, 0, none⟩), .pointer (some ⟨bk, 0, none⟩)] ∧
      w.heap[ba]? = some (.cells #[.string na] 9 (0, 0)) ∧ w.heap[bf]? = some (.cells #[.pointer (some ⟨f, 0, none⟩)] 75 (0, 0)) ∧ w.heap[bk]? = some (.cells #[.string nm] 9 (0, 0))
  | .del k => ∃ bk, ∃ nm : ByteArray, nm.data.toList = k ∧ nm.size ≤ maxLen ∧ v = .func (.func 67) #[] #[.pointer (some ⟨bk, 0, none⟩)] ∧ w.heap[bk]? = some (.cells #[.string nm] 9 (0, 0))

/-- a block that a disk's method may write: a map, or cells of one of four types -/
def Wr (w : World) (g : Nat) : Prop :=
  (∃ es clock, w.heap[g]? = some (.map es clock)) ∨ ∃ cs T fr, w.heap[g]? = some (.cells cs T fr) ∧ (T = 79 ∨ T = 81 ∨ T = 88 ∨ T = 5)
theorem Wr.no_box {w : World} {g : Nat} {cs : Array Value} {T : TypeId} {fr : Nat × Nat} (h : w.heap[g]? = some (.cells cs T fr)) (h1 : T ≠ 79) (h2 : T ≠ 81) (h3 : T ≠ 88) (h4 : T ≠ 5) : ¬ Wr w g := by
  rintro (⟨es, clock, e⟩ | ⟨cs', T', fr', e, hT⟩)
  · rw [h] at e; cases e
  · rw [h] at e
    injection e with e
    injection e with e1 e2 e3
    subst e2
    rcases hT with e | e | e | e
    · exact h1 e
    · exact h2 e
    · exact h3 e
    · exact h4 e

/-- a file as it lies -/
structure FileC where
  blk : Nat
  val : Value
  data : BS
  firm : Nat
structure DiskC where
  bn : Nat
  bs : Nat
  now : NM
  safe : NM
  pv : Value
  pend : List Chg
  pvals : List Value
  files : List FileC
  room : Nat
  fv : Value
  fp : Option Addr
  fc : Nat
  fails : List Int
  power : Int
  steps : Nat

def FileAt (w : World) (P : Nat → Prop) (no : Nat) (f : FileC) : Prop :=
  w.heap[f.blk]? = some (.cells #[.int .i64 no, f.val, .int .i64 f.firm] 81 (0, 0)) ∧ Own8 w 0 f.val f.data ∧ (∀ r, f.val.ownBlock = some r → P r) ∧ P f.blk ∧ f.firm ≤ f.data.length
def diskCells (S : DiskC) : Array Value := #[.map (some S.bn), .map (some S.bs), S.pv, .int .i64 S.files.length, .int .i64 S.room, S.fv, .int .i64 S.power, .int .i64 S.steps]
def HasFile (S : DiskC) (g : Nat) : Prop := ∃ f ∈ S.files, f.blk = g
def ChgFile (S : DiskC) : Chg → Prop
  | .put _ f => HasFile S f
  | .ren _ _ f => HasFile S f
  | .del _ => True

structure DiskAt (w : World) (P : Nat → Prop) (dd : Nat) (S : DiskC) : Prop where
  blk : w.heap[dd]? = some (.cells (diskCells S) 79 (0, 0))
  now : OwnN w S.bn S.now
  safe : OwnN w S.bs S.safe
  ne : S.bn ≠ S.bs
  row : w.ownsRow 0 88 1 S.pv S.pend.length S.pvals
  chg : ∀ (i : Nat) (v : Value) (c : Chg), S.pvals[i]? = some v → S.pend[i]? = some c → IsChg w v c ∧ ChgFile S c
  fails : S.fv = .slice S.fp S.fails.length S.fc ∧ InV w S.fp (S.fails.map (Value.int .i64)) ∧ (∀ a, S.fp = some a → 0 < S.fails.length → ¬ P a.block)
  files : ∀ (i : Nat) (f : FileC), S.files[i]? = some f → FileAt w P i f
  apart : S.files.Pairwise fun f g => f.blk ≠ g.blk ∧ ∀ r, f.val.ownBlock = some r → g.val.ownBlock ≠ some r
  nowF : ∀ x ∈ S.now, HasFile S x.2
  safeF : ∀ x ∈ S.safe, HasFile S x.2
  inP : P dd ∧ P S.bn ∧ P S.bs ∧ ∀ r, S.pv.ownBlock = some r → P r

theorem Below.heap {w w' : World} {g : Nat} {o : Obj} (hb : Below w.heap.size w w') (h : w.heap[g]? = some o) : w'.heap[g]? = some o :=
  (hb.block g (Array.getElem?_eq_some_iff.1 h).1).trans h
theorem Wr.below {w w' : World} {g : Nat} (hb : Below w.heap.size w w') (h : Wr w g) : Wr w' g := by
  rcases h with ⟨es, clock, e⟩ | ⟨cs, T, fr, e, hT⟩
  · exact .inl ⟨es, clock, Below.heap hb e⟩
  · exact .inr ⟨cs, T, fr, Below.heap hb e, hT⟩
theorem IsChg.below {w w' : World} {v : Value} {c : Chg} (hb : Below w.heap.size w w') (h : IsChg w v c) : IsChg w' v c := by
  cases c with
  | put k f =>
    obtain ⟨bf, bk, nm, h1, h2, h3, h4, h5⟩ := h
    exact ⟨bf, bk, nm, h1, h2, h3, Below.heap hb h4, Below.heap hb h5⟩
  | ren a k f =>
    obtain ⟨ba, bf, bk, na, nm, h1, h2, h3, h4, h5, h6, h7, h8⟩ := h
    exact ⟨ba, bf, bk, na, nm, h1, h2, h3, h4, h5, Below.heap hb h6, Below.heap hb h7, Below.heap hb h8⟩
  | del k =>
    obtain ⟨bk, nm, h1, h2, h3, h4⟩ := h
    exact ⟨bk, nm, h1, h2, h3, Below.heap hb h4⟩
/-- new blocks change nothing -/
theorem DiskAt.below {w w' : World} {P : Nat → Prop} {dd : Nat} {S : DiskC} (h : DiskAt w P dd S) (hb : Below w.heap.size w w') : DiskAt w' P dd S where
  blk := Below.heap hb h.blk
  now := h.now.below hb
  safe := h.safe.below hb
  ne := h.ne
  row := ownsRow_below h.row hb
  chg := fun i v c h1 h2 => ⟨(h.chg i v c h1 h2).1.below hb, (h.chg i v c h1 h2).2⟩
  fails := ⟨h.fails.1, h.fails.2.1.below hb, h.fails.2.2⟩
  files := fun i f hf => by
    obtain ⟨h1, h2, h3, h4, h5⟩ := h.files i f hf
    exact ⟨Below.heap hb h1, ownsRow_below h2 hb, h3, h4, h5⟩
  apart := h.apart
  nowF := h.nowF
  safeF := h.safeF
  inP := h.inP

/-- a call of a change -/
theorem chg_call {w : World} {v : Value} {c : Chg} {b : Nat} {M : NM} (h : OwnN w b M) (hc : IsChg w v c) (hl : M.length < maxLen) :
    ∃ g cap, v = .func (.func g) #[] cap ∧ Calls Tryd.prog g (#[.map (some b)] ++ cap) w fun e w' => e = .returned (.tuple #[]) ∧ OwnN w' b (applyC c M) ∧ w.grownBy w' (some b) ∧ w'.heap.size = w.heap.size := by
  cases c with
  | put k f =>
    obtain ⟨bf, bk, nm, rfl, h2, rfl, h4, h5⟩ := hc
    refine ⟨_, _, rfl, ?_⟩
    exact create1_any b bf bk f nm M w h (by rw [cell_of_row _ _ _ _ _ _ h4]; rfl) (by rw [cell_of_row _ _ _ _ _ _ h5]; rfl) h2 hl
  | ren a k f =>
    obtain ⟨ba, bf, bk, na, nm, rfl, rfl, h3, h4, rfl, h6, h7, h8⟩ := hc
    refine ⟨_, _, rfl, ?_⟩
    exact rename1_any b ba bf bk f na nm M w h (by rw [cell_of_row _ _ _ _ _ _ h6]; rfl) (by rw [cell_of_row _ _ _ _ _ _ h7]; rfl) (by rw [cell_of_row _ _ _ _ _ _ h8]; rfl) h3 h4 hl
  | del k =>
    obtain ⟨bk, nm, rfl, h2, rfl, h4⟩ := hc
    refine ⟨_, _, rfl, ?_⟩
    exact remove1_any b bk nm M w h (by rw [cell_of_row _ _ _ _ _ _ h4]; rfl) h2
end Go.Proofs.YtnhfnfdmpcpcoaaDoor

/-
  Down, Steps: what only reads a disk.
-/
namespace Go.Proofs.YtnhfnfdmpcpcoaaDoor
open Go.RowKit Go.Maps

def downS (S : DiskC) : Bool := decide (0 ≤ S.power ∧ (S.steps : Int) = S.power)
theorem DiskAt.cell {w : World} {P : Nat → Prop} {dd : Nat} {S : DiskC} (h : DiskAt w P dd S) (i : Nat) : w.cell? ⟨dd, i, none⟩ = (diskCells S)[i]? := cell_of_row _ _ _ _ _ _ h.blk
theorem DiskAt.unfrozen {w : World} {P : Nat → Prop} {dd : Nat} {S : DiskC} (h : DiskAt w P dd S) (i : Nat) : w.frozen? ⟨dd, i, none⟩ = false := frozen_of_row w dd i _ _ h.blk

theorem steps_any {w : World} {P : Nat → Prop} {dd : Nat} {S : DiskC} (h : DiskAt w P dd S) :
    Calls Tryd.prog 37 #[.pointer (some ⟨dd, 0, none⟩)] w fun e w' => e = .returned (.int .i64 S.steps) ∧ Below w.heap.size w w' := by
  have c7 : w.cell? ⟨dd, 7, none⟩ = some (.int .i64 S.steps) := h.cell 7
  go_enter Tryd.func37, Tryd.ntmps37
  go_wp2_with fail
  go_ret
  exact ⟨rfl, Below.refl _ _⟩

set_option maxHeartbeats 1000000 in
theorem down_any {w : World} {P : Nat → Prop} {dd : Nat} {S : DiskC} (h : DiskAt w P dd S) :
    Calls Tryd.prog 33 #[.pointer (some ⟨dd, 0, none⟩)] w fun e w' => e = .returned (.bool (downS S)) ∧ Below w.heap.size w w' := by
  have c6 : w.cell? ⟨dd, 6, none⟩ = some (.int .i64 S.power) := h.cell 6
  have c7 : w.cell? ⟨dd, 7, none⟩ = some (.int .i64 S.steps) := h.cell 7
  by_cases h1 : 0 ≤ S.power
  · have hd : ((S.steps : Int) == S.power) = downS S := by
      unfold downS
      rw [Bool.eq_iff_iff, beq_iff_eq, decide_eq_true_eq]
      exact ⟨fun e => ⟨h1, e⟩, fun e => e.2⟩
    obtain ⟨b, hb⟩ : ∃ b, b = downS S := ⟨_, rfl⟩
    rw [← hb] at hd ⊢
    clear hb
    go_enter Tryd.func33, Tryd.ntmps33
    go_wp2
    go_quiet (fail)
    go_wp2_with fail
    go_ret
    exact ⟨rfl, bdrewN (Below.refl _ _) _⟩
  · have hd : downS S = false := by unfold downS; exact decide_eq_false (fun e => h1 e.1)
    rw [hd]
    have h2 : decide (0 ≤ S.power) = false := decide_eq_false h1
    have h3 : S.power < 0 := by omega
    clear hd
    go_enter Tryd.func33, Tryd.ntmps33
    go_wp2
    go_quiet (fail)
    go_wp2_with fail
    go_ret
    exact ⟨rfl, bdrewN (Below.refl _ _) _⟩
end Go.Proofs.YtnhfnfdmpcpcoaaDoor

/-
  begin: a step is counted, its names are looked at.
-/
namespace Go.Proofs.YtnhfnfdmpcpcoaaDoor
open Go.RowKit Go.Maps

def badN (l : List UInt8) : Bool := !goodN l
theorem begin1_any (s : ByteArray) (w : World) (hs : s.size ≤ 140737488351232) :
    Calls Tryd.prog 60 #[.string s] w fun e w' => e = .returned (.bool (badN s.data.toList)) ∧ Below w.heap.size w w' := by
  go_enter Tryd.func60, Tryd.ntmps60
  go_wp2_with fail
  refine (good_any s w hs).mono ?_
  rintro e w1 ⟨rfl, hb1⟩
  go_wp2_with fail
  go_ret
  exact ⟨rfl, hb1⟩

set_option maxHeartbeats 2000000 in
theorem indexBad_any (L : List (List UInt8)) (q : Option Addr) (n c : Nat) (hn : L.length = n) (hm : n ≤ 1000000) (hsz : ∀ x ∈ L, x.length ≤ 140737488351232) (w : World) (h : InS w q L) :
    Calls Tryd.prog 69 #[.slice q n c, .func (.func 60) #[] #[]] w fun e w' => ∃ i : Int, e = .returned (.int .i64 i) ∧ decide (0 ≤ i) = L.any badN ∧ -1 ≤ i ∧ i ≤ 1000000 ∧ Below w.heap.size w w' := by
  subst hn
  have HSZ := Lib.hid hsz
  clear hsz
  go_enter Tryd.func69, Tryd.ntmps69
  go_wp2_with fail
  go_loopw [8] (fun i wr => ∃ k : Nat, k ≤ L.length ∧ i = .int .i64 k ∧ (L.take k).any badN = false ∧ Below w.heap.size w wr) (fun i _ => L.length - (intOf i).toNat)
  case atStart => exact ⟨0, Nat.zero_le _, rfl, by simp, Below.refl _ _⟩
  case round =>
    obtain ⟨k, hk, rfl, hno, hb⟩ := hrel
    have hbs := hb.size
    have HNO := Lib.hid hno
    clear hno
    by_cases hlt : k < L.length
    · obtain ⟨b, o, rfl, x, g1, g2⟩ := (h.below hb).at hlt
      have hxs : x.size ≤ 140737488351232 := by rw [← size_list, g2]; exact HSZ.out _ (List.getElem_mem hlt)
      have hcall := fun W => begin1_any x W hxs
      have HT : Hid ((L.take (k + 1)).any badN = badN x.data.toList) := by
        show (L.take (k + 1)).any badN = badN x.data.toList
        rw [List.take_succ_eq_append_getElem hlt, List.any_append, HNO.out, g2]
        simp
      have HM : Hid (x.data.toList ∈ L) := by show x.data.toList ∈ L; rw [g2]; exact List.getElem_mem hlt
      clear g2
      cases hbad : badN x.data.toList with
      | true =>
        rw [hbad] at hcall
        have HA := Lib.hid (show L.any badN = true from List.any_eq_true.2 ⟨_, HM.out, hbad⟩)
        clear hbad
        go_wp2_with fail
        refine (hcall _).mono ?_
        rintro e w1 ⟨rfl, hb1⟩
        go_wp2_with fail
        go_ret
        exact ⟨_, rfl, by rw [HA.out]; exact decide_eq_true (by omega), by omega, by omega, hb.trans (hb1.mono (by simpa using hbs))⟩
      | false =>
        rw [hbad] at hcall HT
        have HF := HT
        clear hbad
        go_wp2_with fail
        refine (hcall _).mono ?_
        rintro e w1 ⟨rfl, hb1⟩
        go_wp2_with fail
        go_roundw
        case rel => exact ⟨k + 1, by omega, by go_num, HF.out, hb.trans (hb1.mono (by simpa using hbs))⟩
        case measure => simp [intOf]; omega
    · obtain rfl : k = L.length := by omega
      have ha : L.any badN = false := by have := HNO.out; rwa [List.take_length] at this
      go_wp2_with fail
      go_ret
      exact ⟨_, rfl, by rw [ha]; rfl, by omega, by omega, hb⟩

set_option maxHeartbeats 1000000 in
theorem containsBad_any (L : List (List UInt8)) (q : Option Addr) (n c : Nat) (hn : L.length = n) (hm : n ≤ 1000000) (hsz : ∀ x ∈ L, x.length ≤ 140737488351232) (w : World) (h : InS w q L) :
    Calls Tryd.prog 59 #[.slice q n c, .func (.func 60) #[] #[]] w fun e w' => e = .returned (.bool (L.any badN)) ∧ Below w.heap.size w w' := by
  have hcall := indexBad_any L q n c hn hm hsz w h
  obtain ⟨bb, hbb⟩ : ∃ b, b = L.any badN := ⟨_, rfl⟩
  rw [← hbb] at hcall ⊢
  clear hbb
  go_enter Tryd.func59, Tryd.ntmps59
  go_wp2_with fail
  refine hcall.mono ?_
  rintro e w1 ⟨i, rfl, hi, _, _, hb1⟩
  clear hcall
  go_wp2_with fail
  go_ret
  exact ⟨by first | rfl | exact ret_bool hi, hb1⟩
end Go.Proofs.YtnhfnfdmpcpcoaaDoor

/-
  A disk behind a store into one of its blocks.
-/
namespace Go.Proofs.YtnhfnfdmpcpcoaaDoor
open Go.RowKit Go.Maps

theorem blk_ne {w : World} {a b : Nat} {cs cs' : Array Value} {T T' : TypeId} {fr fr' : Nat × Nat} (h : w.heap[a]? = some (.cells cs T fr)) (h' : w.heap[b]? = some (.cells cs' T' fr')) (hT : T ≠ T') : a ≠ b := by
  rintro rfl
  rw [h] at h'
  injection h' with e
  injection e with _ e
  exact hT e
theorem map_ne {w : World} {a b : Nat} {M : NM} {cs : Array Value} {T : TypeId} {fr : Nat × Nat} (h : OwnN w a M) (h' : w.heap[b]? = some (.cells cs T fr)) : a ≠ b := by
  rintro rfl
  obtain ⟨_, es, clock, e, _⟩ := h
  rw [h'] at e; cases e
theorem row_ne {w : World} {base size n b : Nat} {e T : TypeId} {v : Value} {xs : List Value} {cs : Array Value} {fr : Nat × Nat} (h : w.ownsRow base e size v n xs) (h' : w.heap[b]? = some (.cells cs T fr)) (hT : e ≠ T) : v.ownBlock ≠ some b := by
  intro hv
  rcases h.2 with ⟨rfl, _⟩ | ⟨g, cap, cur, rfl, _, hg, _⟩
  · cases hv
  · have : g = b := by simpa [Value.ownBlock] using hv
    subst this
    rw [hg] at h'
    injection h' with e'
    injection e' with _ e'
    exact hT e'
/-- all but block x is as it was -/
def Else (w w' : World) (x : Nat) : Prop := ∀ g, g ≠ x → w'.heap[g]? = w.heap[g]?
theorem rowElse {w w' : World} {x base size n : Nat} {e : TypeId} {v : Value} {xs : List Value} (h : w.ownsRow base e size v n xs) (hE : Else w w' x) (hx : v.ownBlock ≠ some x) : w'.ownsRow base e size v n xs := by
  refine ⟨h.1, ?_⟩
  rcases h.2 with h0 | ⟨g, cap, cur, rfl, h1, h2, r⟩
  · exact .inl h0
  · exact .inr ⟨g, cap, cur, rfl, h1, (hE g (fun e => hx (by rw [e]; rfl))).trans h2, r⟩
theorem chgElse {w w' : World} {x : Nat} {v : Value} {c : Chg} {cs : Array Value} {T : TypeId} {fr : Nat × Nat} (h : IsChg w v c) (hE : Else w w' x) (hx : w.heap[x]? = some (.cells cs T fr)) (h1 : 75 ≠ T) (h2 : 9 ≠ T) : IsChg w' v c := by
  cases c with
  | put k f =>
    obtain ⟨bf, bk, nm, e1, e2, e3, e4, e5⟩ := h
    exact ⟨bf, bk, nm, e1, e2, e3, (hE bf (blk_ne e4 hx h1)).trans e4, (hE bk (blk_ne e5 hx h2)).trans e5⟩
  | ren a k f =>
    obtain ⟨ba, bf, bk, na, nm, e1, e2, e3, e4, e5, e6, e7, e8⟩ := h
    exact ⟨ba, bf, bk, na, nm, e1, e2, e3, e4, e5, (hE ba (blk_ne e6 hx h2)).trans e6, (hE bf (blk_ne e7 hx h1)).trans e7, (hE bk (blk_ne e8 hx h2)).trans e8⟩
  | del k =>
    obtain ⟨bk, nm, e1, e2, e3, e4⟩ := h
    exact ⟨bk, nm, e1, e2, e3, (hE bk (blk_ne e4 hx h2)).trans e4⟩
theorem invElse {w w' : World} {x : Nat} {p : Option Addr} {xs : List Value} (h : InV w p xs) (hE : Else w w' x) (hx : ∀ a, p = some a → 0 < xs.length → a.block ≠ x) : InV w' p xs := by
  intro h0
  obtain ⟨b, o, rfl, hc⟩ := h h0
  refine ⟨b, o, rfl, fun i hi => ?_⟩
  have hb := hE b (hx _ rfl h0)
  have := hc i hi
  simp only [World.cell?, hb]
  exact this

/-- the disk's own cells turn: the count of steps -/
theorem DiskAt.setSteps {w w' : World} {P : Nat → Prop} {dd n : Nat} {S : DiskC} (h : DiskAt w P dd S) (hblk : w'.heap[dd]? = some (.cells (diskCells { S with steps := n }) 79 (0, 0))) (hE : Else w w' dd) : DiskAt w' P dd { S with steps := n } where
  blk := hblk
  now := h.now.kept (hE _ (map_ne h.now h.blk))
  safe := h.safe.kept (hE _ (map_ne h.safe h.blk))
  ne := h.ne
  row := rowElse h.row hE (row_ne h.row h.blk (by decide))
  chg := fun i v c h1 h2 => ⟨chgElse (h.chg i v c h1 h2).1 hE h.blk (by decide) (by decide), by
    have := (h.chg i v c h1 h2).2
    cases c <;> exact this⟩
  fails := ⟨h.fails.1, invElse h.fails.2.1 hE (fun a ha h0 e => h.fails.2.2 a ha (by simpa using h0) (by rw [e]; exact h.inP.1)), h.fails.2.2⟩
  files := fun i f hf => by
    obtain ⟨h1, h2, h3, h4, h5⟩ := h.files i f hf
    exact ⟨(hE _ (blk_ne h1 h.blk (by decide))).trans h1, rowElse h2 hE (row_ne h2 h.blk (by decide)), h3, h4, h5⟩
  apart := h.apart
  nowF := h.nowF
  safeF := h.safeF
  inP := h.inP
end Go.Proofs.YtnhfnfdmpcpcoaaDoor

/-
  begin, of a disk.
-/
namespace Go.Proofs.YtnhfnfdmpcpcoaaDoor
open Go.RowKit Go.Maps

def beginE (S : DiskC) (L : List (List UInt8)) : Int := if downS S = true then 93 else if S.fails.contains ((S.steps : Int) + 1) = true then 94 else if L.any badN = true then 95 else 0
def beginS (S : DiskC) : DiskC := if downS S = true then S else { S with steps := S.steps + 1 }

theorem containsI_any {w : World} {p : Option Addr} {zs : List Int} {n c : Nat} (x : Int) (hn : zs.length = n) (hm : n ≤ 17592186043904) (h : InV w p (zs.map (Value.int .i64))) :
    Calls Tryd.prog 58 #[.slice p n c, .int .i64 x] w fun e w' => e = .returned (.bool (zs.contains x)) ∧ w' = w := by
  subst hn
  cases zs with
  | nil =>
    refine (Tryd.slices_Contains_int_empty p c x w).mono ?_
    rintro e w' ⟨rfl, rfl⟩
    exact ⟨by simp, rfl⟩
  | cons y r =>
    obtain ⟨b, o, rfl, hall⟩ := InV.at h (k := 0) (by simp)
    have := Tryd.slices_Contains_int b o (y :: r).length c (y :: r) x w (Nat.le_refl _) (by omega) (fun j hj => by
      rw [hall j (by simpa using hj), List.getElem_map, List.getD_eq_getElem?_getD, List.getElem?_eq_getElem hj]; rfl)
    rw [List.take_length] at this
    exact this

theorem DiskAt.pvForm {w : World} {P : Nat → Prop} {dd : Nat} {S : DiskC} (h : DiskAt w P dd S) : ∃ a c, S.pv = .slice a S.pend.length c := by
  rcases h.row.2 with ⟨h1, h2⟩ | ⟨g, cap, cur, h1, _⟩
  · exact ⟨none, 0, by rw [h1, h2]⟩
  · exact ⟨_, _, h1⟩
/-- texts lie in another block than the disk's -/
theorem DiskAt.noText {w : World} {P : Nat → Prop} {dd : Nat} {S : DiskC} (h : DiskAt w P dd S) {o : Nat} {x : ByteArray} (hc : w.cell? ⟨dd, o, none⟩ = some (.string x)) : False := by
  obtain ⟨a, c, hp⟩ := h.pvForm
  rw [h.cell o] at hc
  unfold diskCells at hc
  rw [hp, h.fails.1] at hc
  match o, hc with
  | 0, hc => simp at hc
  | 1, hc => simp at hc
  | 2, hc => simp at hc
  | 3, hc => simp at hc
  | 4, hc => simp at hc
  | 5, hc => simp at hc
  | 6, hc => simp at hc
  | 7, hc => simp at hc
  | o + 8, hc => simp at hc
theorem DiskAt.textElse {w w' : World} {P : Nat → Prop} {dd : Nat} {S : DiskC} (h : DiskAt w P dd S) (hE : Else w w' dd) {q : Option Addr} {L : List (List UInt8)} (hq : InS w q L) : InS w' q L := by
  refine invElse hq hE fun a ha h0 e => ?_
  obtain ⟨b, o, rfl, hc⟩ := hq h0
  obtain rfl := Option.some.inj ha
  have := hc 0 h0
  rw [show (tx L)[0] = .string ⟨(L[0]'(by rw [tx_length] at h0; exact h0)).toArray⟩ by simp [tx]] at this
  simp only at e
  subst e
  exact h.noText this

theorem quietL {P : Program} {f : FuncId} {args : Array Value} {w : World} {n : Nat} {v : Value}
    (h : Calls P f args (w.drewN n) fun e w' => e = .returned v ∧ w' = w.drewN n) : Calls P f args (w.drewN n) fun e w'' => e = .returned v ∧ ∃ m, w'' = w.drewN m :=
  h.mono fun _ _ ⟨he, hm⟩ => ⟨he, n, hm⟩

set_option maxHeartbeats 4000000 in
theorem begin_any {w : World} {P : Nat → Prop} {dd : Nat} {S : DiskC} (h : DiskAt w P dd S) (L : List (List UInt8)) (q : Option Addr) (n c : Nat) (hn : L.length = n) (hm : n ≤ 1000) (hsz : ∀ x ∈ L, x.length ≤ 140737488351232) (hq : InS w q L) (hst : S.steps ≤ 1000000) (hfl : S.fails.length ≤ 17592186043904) :
    Calls Tryd.prog 42 #[.pointer (some ⟨dd, 0, none⟩), .slice q n c] w fun e w' => e = .returned (.int .i64 (beginE S L)) ∧ DiskAt w' P dd (beginS S) ∧ Only (fun g => g = dd) w w' := by
  have hdown := down_any h
  cases hd : downS S with
  | true =>
    rw [hd] at hdown
    have HE := Lib.hid (show beginE S L = 93 by unfold beginE; rw [if_pos hd])
    have HS := Lib.hid (show beginS S = S by unfold beginS; rw [if_pos hd])
    clear hd
    go_enter Tryd.func42, Tryd.ntmps42
    go_wp2_with fail
    refine hdown.mono ?_
    rintro e w1 ⟨rfl, hb1⟩
    clear hdown
    go_wp2_with fail
    go_ret
    refine ⟨by rw [HE.out]; rfl, by rw [HS.out]; exact h.below hb1, ⟨hb1.os, hb1.tape, hb1.output, hb1.size, fun k hk _ => hb1.block k hk⟩⟩
  | false =>
    rw [hd] at hdown
    have HE := Lib.hid (show beginE S L = if S.fails.contains ((S.steps : Int) + 1) = true then 94 else if L.any badN = true then 95 else 0 by unfold beginE; rw [if_neg (by rw [hd]; simp)])
    have HS := Lib.hid (show beginS S = { S with steps := S.steps + 1 } by unfold beginS; rw [if_neg (by rw [hd]; simp)])
    clear hd
    go_enter Tryd.func42, Tryd.ntmps42
    go_wp2_with fail
    refine hdown.mono ?_
    rintro e w1 ⟨rfl, hb1⟩
    clear hdown
    have h1 := h.below hb1
    have c7 : w1.cell? ⟨dd, 7, none⟩ = some (.int .i64 S.steps) := h1.cell 7
    have c5 : w1.cell? ⟨dd, 5, none⟩ = some S.fv := h1.cell 5
    have f7 := h1.unfrozen 7
    rw [h.fails.1] at c5
    obtain ⟨wb, hwb⟩ : ∃ W0, W0 = w1.setCell ⟨dd, 7, none⟩ (.int .i64 ((S.steps : Int) + 1)) := ⟨_, rfl⟩
    have hblk : wb.heap[dd]? = some (.cells (diskCells { S with steps := S.steps + 1 }) 79 (0, 0)) := by
      rw [hwb]
      simp only [World.setCell, Array.getElem?_modify, h1.blk]
      simp [diskCells]
    have hE : Else w1 wb dd := by
      intro g hg
      rw [hwb]
      exact Below.heap_setCell _ _ _ _ hg
    have hwbs : wb.heap.size = w1.heap.size := by rw [hwb]; simp [World.setCell]
    have h2 : DiskAt wb P dd { S with steps := S.steps + 1 } := h1.setSteps hblk hE
    have hqb : InS wb q L := h1.textElse hE (hq.below hb1)
    have hon : Only (fun g => g = dd) w wb := by
      refine ⟨?_, ?_, ?_, by have := hb1.size; omega, fun k hk hne => (hE k hne).trans (hb1.block k hk)⟩
      · rw [hwb]; exact hb1.os
      · rw [hwb]; exact hb1.tape
      · rw [hwb]; exact hb1.output
    have d5 : wb.cell? ⟨dd, 5, none⟩ = some (.slice S.fp S.fails.length S.fc) := by have := h2.cell 5; rw [this]; exact congrArg some h.fails.1
    have d7 : wb.cell? ⟨dd, 7, none⟩ = some (.int .i64 ((S.steps : Int) + 1)) := by have := h2.cell 7; rw [this]; rfl
    have HC := Lib.hid (fun (m : Nat) => containsI_any (c := S.fc) ((S.steps : Int) + 1) rfl hfl (w := wb.drewN m) h2.fails.2.1)
    have HWB := Lib.hid hwb
    have H2 := Lib.hid h2
    have HON := Lib.hid hon
    clear hwb hblk hE h2 hon
    cases hf : S.fails.contains ((S.steps : Int) + 1) with
    | true =>
      rw [hf] at HC
      have HR := Lib.hid (show beginE S L = 94 by rw [HE.out, if_pos hf])
      clear hf
      go_wp2_with fail
      rw [← HWB.out]
      go_quiet ((go_at_call 58; exact quietL (HC.out _)))
      go_wp2_with fail
      go_ret
      exact ⟨by rw [HR.out]; rfl, by rw [HS.out]; exact H2.out.below (bdrewN (Below.refl _ _) _), HON.out.drewN _⟩
    | false =>
      rw [hf] at HC
      have HR := Lib.hid (show beginE S L = if L.any badN = true then 95 else 0 by rw [HE.out, if_neg (by rw [hf]; simp)])
      clear hf
      have HB := Lib.hid (fun m => containsBad_any L q n c hn (by omega) hsz (wb.drewN m) (hqb.drewN m))
      go_wp2_with fail
      rw [← HWB.out]
      go_quiet ((go_at_call 58; exact quietL (HC.out _)))
      go_wp2_with fail
      refine (HB.out _).mono ?_
      rintro e w3 ⟨rfl, hb3⟩
      have hb3' : Below wb.heap.size wb w3 := (bdrewN (Below.refl _ wb) _).trans hb3
      have h3 := H2.out.below hb3'
      have hon3 : Only (fun g => g = dd) w w3 := ⟨hb3'.os.trans HON.out.os, hb3'.tape.trans HON.out.tape, hb3'.output.trans HON.out.output, Nat.le_trans HON.out.size hb3'.size, fun k hk hne => (hb3'.block k (Nat.lt_of_lt_of_le hk HON.out.size)).trans (HON.out.block k hk hne)⟩
      have H3 := Lib.hid h3
      have HON3 := Lib.hid hon3
      clear h3 hon3 hb3' hb3
      cases hbad : L.any badN with
      | true =>
        have HR2 := Lib.hid (show beginE S L = 95 by rw [HR.out, if_pos hbad])
        clear hbad
        go_wp2_with fail
        go_ret
        exact ⟨by rw [HR2.out]; rfl, by rw [HS.out]; exact H3.out, HON3.out⟩
      | false =>
        have HR2 := Lib.hid (show beginE S L = 0 by rw [HR.out, if_neg (by rw [hbad]; simp)])
        clear hbad
        go_wp2_with fail
        go_ret
        exact ⟨by rw [HR2.out]; rfl, by rw [HS.out]; exact H3.out, HON3.out⟩
end Go.Proofs.YtnhfnfdmpcpcoaaDoor

/-
  on: a step about a file that is there.
-/
namespace Go.Proofs.YtnhfnfdmpcpcoaaDoor
open Go.RowKit Go.Maps

def onE (S : DiskC) (L : List (List UInt8)) (k : List UInt8) : Int := if beginE S (L ++ [k]) ≠ 0 then beginE S (L ++ [k]) else if lookN S.now k = none then 90 else 0
def onF (S : DiskC) (L : List (List UInt8)) (k : List UInt8) : Option Nat := if beginE S (L ++ [k]) ≠ 0 then none else lookN S.now k
theorem beginS_now (S : DiskC) : (beginS S).now = S.now ∧ (beginS S).bn = S.bn := by unfold beginS; split <;> exact ⟨rfl, rfl⟩
theorem beginE_cases (S : DiskC) (L : List (List UInt8)) : beginE S L = 93 ∨ beginE S L = 94 ∨ beginE S L = 95 ∨ beginE S L = 0 := by
  unfold beginE
  split
  · exact .inl rfl
  · split
    · exact .inr (.inl rfl)
    · split
      · exact .inr (.inr (.inl rfl))
      · exact .inr (.inr (.inr rfl))

set_option maxHeartbeats 4000000 in
theorem on_any {w0 w : World} {P : Nat → Prop} {dd : Nat} {S : DiskC} (h : DiskAt w0 P dd S) (hb0 : Below w0.heap.size w0 w) (nm : ByteArray) (hnm : nm.size ≤ 140737488351232) (vm : Value) (L : List (List UInt8)) (hvm : OwnS w w0.heap.size vm L) (hL : L.length ≤ 100) (hsz : ∀ x ∈ L, x.length ≤ 140737488351232) (hst : S.steps ≤ 1000000) (hfl : S.fails.length ≤ 17592186043904) :
    Calls Tryd.prog 45 #[.pointer (some ⟨dd, 0, none⟩), .string nm, vm] w fun e w' => e = .returned (.tuple #[fileV (onF S L nm.data.toList), .int .i64 (onE S L nm.data.toList)]) ∧ DiskAt w' P dd (beginS S) ∧ Only (fun g => g = dd) w0 w' ∧ Only (fun g => g = dd ∨ vm.ownBlock = some g) w w' := by
  have hs0 := hb0.size
  have hown := hvm.alloc (.cells #[.string nm] 9)
  have hin := fun W => InS.one W nm
  go_enter Tryd.func45, Tryd.ntmps45
  go_wp2_with (at_builtin; refine wpList_appendS rfl _ _ rfl w0.heap.size _ _ rfl hown _ _ _ _ rfl rfl (hin _) (by simp; omega) (by simp; omega) ?_; intro v1 w1 hown1 hgrow1 _; have hB1 := OwnS.grown (hb0.alloc hs0 _) (by simp; omega) hown hgrow1; obtain ⟨q1, c1, rfl, k1, k2, hq1, _⟩ := hown1.shape rfl)
  have h1 := h.below hB1
  have hbeg := begin_any h1 (L ++ [nm.data.toList]) q1 (L.length + 1) c1 (by simp) (by omega) (fun x hx => by
    rcases List.mem_append.1 hx with hx | hx
    · exact hsz x hx
    · rw [List.mem_singleton.1 hx, size_list]; exact hnm) hq1 hst hfl
  obtain ⟨en, hen⟩ : ∃ en, en = beginE S (L ++ [nm.data.toList]) := ⟨_, rfl⟩
  have hE : onE S L nm.data.toList = if en ≠ 0 then en else if lookN S.now nm.data.toList = none then 90 else 0 := by rw [hen]; rfl
  have hF : onF S L nm.data.toList = if en ≠ 0 then none else lookN S.now nm.data.toList := by rw [hen]; rfl
  have hcs := beginE_cases S (L ++ [nm.data.toList])
  rw [← hen] at hbeg hcs
  have HE := Lib.hid hE
  have HF := Lib.hid hF
  have hone : ∀ w', Only (fun g => g = dd) w1 w' → Only (fun g => g = dd) w0 w' := fun w' ho =>
    ⟨ho.os.trans hB1.os, ho.tape.trans hB1.tape, ho.output.trans hB1.output, Nat.le_trans hB1.size ho.size, fun k hk hne => (ho.block k (Nat.lt_of_lt_of_le hk hB1.size) hne).trans (hB1.block k hk)⟩
  have htwo : ∀ w', Only (fun g => g = dd) w1 w' → Only (fun g => g = dd ∨ vm.ownBlock = some g) w w' := fun w' ho =>
    have hz := hgrow1.size
    have hba : Below w.heap.size w (w.alloc (.cells #[.string nm] 9)) := (Below.refl _ w).alloc (Nat.le_refl _) _
    have hzs : (w.alloc (.cells #[.string nm] 9)).heap.size = w.heap.size + 1 := by simp
    ⟨ho.os.trans (hgrow1.os.trans hba.os), ho.tape.trans (hgrow1.tape.trans hba.tape), ho.output.trans (hgrow1.output.trans hba.output), by have := ho.size; omega, fun k hk hne =>
      ((ho.block k (by omega) (fun e => hne (.inl e))).trans (hgrow1.block k (by omega) (fun e => hne (.inr e.symm)))).trans (hba.block k hk)⟩
  have HONE := Lib.hid hone
  have HTWO := Lib.hid htwo
  clear htwo
  clear hE hF hen hone hown hgrow1 hown1 hvm hq1
  refine hbeg.mono ?_
  rintro e w2 ⟨rfl, h2, ho2⟩
  have H2 := Lib.hid h2
  have HO2 := Lib.hid (show Only (fun g => g = dd) w0 w2 ∧ Only (fun g => g = dd ∨ vm.ownBlock = some g) w w2 from ⟨HONE.out _ ho2, HTWO.out _ ho2⟩)
  have c0 : w2.cell? ⟨dd, 0, none⟩ = some (.map (some S.bn)) := by
    have := h2.cell 0
    rw [this]
    unfold diskCells
    rw [(beginS_now S).2]; rfl
  have hmap : OwnN w2 S.bn S.now := by
    have := h2.now
    rwa [(beginS_now S).1, (beginS_now S).2] at this
  have hrun := run_lookF hmap nm (by unfold maxLen; omega)
  clear hbeg h2 ho2 hmap
  by_cases hz : en = 0
  · subst hz
    cases hl : lookN S.now nm.data.toList with
    | none =>
      have HR := Lib.hid (show onE S L nm.data.toList = 90 ∧ onF S L nm.data.toList = none by rw [HE.out, HF.out, hl]; exact ⟨rfl, rfl⟩)
      rw [hl] at hrun
      unfold fileV at hrun
      clear hl
      go_wp2_with fail
      go_ret2
      exact ⟨by rw [HR.out.1, HR.out.2]; rfl, H2.out, HO2.out⟩
    | some f =>
      have HR := Lib.hid (show onE S L nm.data.toList = 0 ∧ onF S L nm.data.toList = some f by rw [HE.out, HF.out, hl]; exact ⟨rfl, rfl⟩)
      rw [hl] at hrun
      unfold fileV at hrun
      clear hl
      go_wp2_with fail
      go_ret2
      exact ⟨by rw [HR.out.1, HR.out.2]; rfl, H2.out, HO2.out⟩
  · have HR := Lib.hid (show onE S L nm.data.toList = en ∧ onF S L nm.data.toList = none by rw [HE.out, HF.out, if_pos hz, if_pos hz]; exact ⟨rfl, rfl⟩)
    have hz2 : (en == 0) = false := beq_eq_false_iff_ne.2 hz
    have hz3 : (en != 0) = true := by simp [bne, hz2]
    go_wp2_with fail
    go_ret2
    exact ⟨by rw [HR.out.1, HR.out.2]; rfl, H2.out, HO2.out⟩
end Go.Proofs.YtnhfnfdmpcpcoaaDoor

/-
  A disk behind a change of one file.
-/
namespace Go.Proofs.YtnhfnfdmpcpcoaaDoor
open Go.RowKit Go.Maps

/-- blocks that are neither x nor y are as they were -/
def Else2 (w w' : World) (x : Nat) (y : Option Nat) : Prop := ∀ g, g < w.heap.size → g ≠ x → some g ≠ y → w'.heap[g]? = w.heap[g]?
theorem lt_of_heap {w : World} {g : Nat} {o : Obj} (h : w.heap[g]? = some o) : g < w.heap.size := (Array.getElem?_eq_some_iff.1 h).1
theorem keep2 {w w' : World} {x g : Nat} {y : Option Nat} {o : Obj} (hE : Else2 w w' x y) (h : w.heap[g]? = some o) (h1 : g ≠ x) (h2 : some g ≠ y) : w'.heap[g]? = some o := (hE g (lt_of_heap h) h1 h2).trans h
theorem rowElse2 {w w' : World} {x base size n : Nat} {y : Option Nat} {e : TypeId} {v : Value} {xs : List Value} (h : w.ownsRow base e size v n xs) (hE : Else2 w w' x y) (hx : v.ownBlock ≠ some x) (hy : ∀ r, v.ownBlock = some r → y ≠ some r) : w'.ownsRow base e size v n xs := by
  refine ⟨h.1, ?_⟩
  rcases h.2 with h0 | ⟨g, cap, cur, rfl, h1, h2, r⟩
  · exact .inl h0
  · exact .inr ⟨g, cap, cur, rfl, h1, keep2 hE h2 (fun e => hx (by rw [e]; rfl)) (fun e => hy g rfl e.symm), r⟩
/-- a row's block is of the row's type -/
theorem rowBlk {w : World} {base size n g : Nat} {e : TypeId} {v : Value} {xs : List Value} (h : w.ownsRow base e size v n xs) (hv : v.ownBlock = some g) : ∃ cur, w.heap[g]? = some (.cells cur e (0, 0)) := by
  rcases h.2 with ⟨rfl, _⟩ | ⟨g', cap, cur, rfl, _, hg, _⟩
  · cases hv
  · have : g' = g := by simpa [Value.ownBlock] using hv
    subst this
    exact ⟨cur, hg⟩
theorem chgElse2 {w w' : World} {x : Nat} {y : Option Nat} {v : Value} {c : Chg} (h : IsChg w v c) (hE : Else2 w w' x y) (hx : ∀ (g : Nat) (cs : Array Value) (T : TypeId) (fr : Nat × Nat), w.heap[g]? = some (Obj.cells cs T fr) → T = 75 ∨ T = 9 → g ≠ x ∧ some g ≠ y) : IsChg w' v c := by
  have k : ∀ (g : Nat) (cs : Array Value) (T : TypeId) (fr : Nat × Nat), w.heap[g]? = some (Obj.cells cs T fr) → T = 75 ∨ T = 9 → w'.heap[g]? = some (Obj.cells cs T fr) := fun g cs T fr h1 h2 => keep2 hE h1 (hx g cs T fr h1 h2).1 (hx g cs T fr h1 h2).2
  cases c with
  | put a f =>
    obtain ⟨bf, bk, nm, e1, e2, e3, e4, e5⟩ := h
    exact ⟨bf, bk, nm, e1, e2, e3, k _ _ _ _ e4 (.inl rfl), k _ _ _ _ e5 (.inr rfl)⟩
  | ren a b f =>
    obtain ⟨ba, bf, bk, na, nm, e1, e2, e3, e4, e5, e6, e7, e8⟩ := h
    exact ⟨ba, bf, bk, na, nm, e1, e2, e3, e4, e5, k _ _ _ _ e6 (.inr rfl), k _ _ _ _ e7 (.inl rfl), k _ _ _ _ e8 (.inr rfl)⟩
  | del a =>
    obtain ⟨bk, nm, e1, e2, e3, e4⟩ := h
    exact ⟨bk, nm, e1, e2, e3, k _ _ _ _ e4 (.inr rfl)⟩

theorem hasFile_set {S : DiskC} {i : Nat} {f f' : FileC} (hf : S.files[i]? = some f) (hb : f'.blk = f.blk) {g : Nat} (h : HasFile S g) : HasFile { S with files := S.files.set i f' } g := by
  obtain ⟨z, hz, e⟩ := h
  obtain ⟨hi, e0⟩ := List.getElem?_eq_some_iff.1 hf
  obtain ⟨j, hj, e2⟩ := List.getElem_of_mem hz
  by_cases hij : i = j
  · subst hij
    refine ⟨f', ?_, ?_⟩
    · exact List.mem_iff_getElem.2 ⟨i, by rw [List.length_set]; exact hi, by simp⟩
    · rw [hb, ← e0, e2]; exact e
  · refine ⟨z, List.mem_iff_getElem.2 ⟨j, by rw [List.length_set]; exact hj, ?_⟩, e⟩
    rw [List.getElem_set_ne hij]; exact e2

/-- one file turns: its cells, its row -/
theorem DiskAt.setFile {w w' : World} {P : Nat → Prop} {dd i : Nat} {S : DiskC} {f f' : FileC} (h : DiskAt w P dd S) (hf : S.files[i]? = some f) (hb : f'.blk = f.blk) (hcell : w'.heap[f.blk]? = some (.cells #[.int .i64 i, f'.val, .int .i64 f'.firm] 81 (0, 0)))
    (hE : Else2 w w' f.blk f.val.ownBlock) (hown : Own8 w' 0 f'.val f'.data) (hrow : ∀ r, f'.val.ownBlock = some r → f.val.ownBlock = some r ∨ w.heap.size ≤ r) (hfm : f'.firm ≤ f'.data.length) :
    DiskAt w' (fun g => P g ∨ f'.val.ownBlock = some g) dd { S with files := S.files.set i f' } := by
  obtain ⟨g1, g2, g3, g4, g5⟩ := h.files i f hf
  have ty : ∀ (g : Nat) (cs : Array Value) (T : TypeId) (fr : Nat × Nat), w.heap[g]? = some (Obj.cells cs T fr) → T ≠ 81 → T ≠ 5 → g ≠ f.blk ∧ some g ≠ f.val.ownBlock := fun g cs T fr hg t1 t2 =>
    ⟨blk_ne hg g1 t1, fun e => by
      obtain ⟨cur, hc⟩ := rowBlk g2 e.symm
      rw [hg] at hc
      injection hc with e'
      injection e' with _ e'
      exact t2 e'⟩
  have mp : ∀ b M, OwnN w b M → b ≠ f.blk ∧ some b ≠ f.val.ownBlock := fun b M hM => ⟨map_ne hM g1, fun e => by
    obtain ⟨cur, hc⟩ := rowBlk g2 e.symm
    exact map_ne hM hc rfl⟩
  have apart2 : ∀ (m : Nat) (z : FileC), S.files[m]? = some z → m ≠ i → z.blk ≠ f.blk ∧ ∀ r, z.val.ownBlock = some r → f.val.ownBlock ≠ some r := by
    intro m z hz hne
    obtain ⟨hm, em⟩ := List.getElem?_eq_some_iff.1 hz
    obtain ⟨hi, ei⟩ := List.getElem?_eq_some_iff.1 hf
    have hp := List.pairwise_iff_getElem.1 h.apart
    rcases Nat.lt_or_gt_of_ne hne with hlt | hlt
    · have := hp m i hm hi hlt
      rw [em, ei] at this
      exact this
    · have := hp i m hi hm hlt
      rw [em, ei] at this
      exact ⟨fun e => this.1 e.symm, fun r hr e => this.2 r e hr⟩
  have td := ty dd _ _ _ h.blk (by decide) (by decide)
  refine ⟨?_, ?_, ?_, h.ne, ?_, ?_, ?_, ?_, ?_, ?_, ?_, ?_⟩
  · have := keep2 hE h.blk td.1 td.2
    rw [this]
    unfold diskCells
    simp
  · exact h.now.kept (hE _ h.now.lt (mp _ _ h.now).1 (mp _ _ h.now).2)
  · exact h.safe.kept (hE _ h.safe.lt (mp _ _ h.safe).1 (mp _ _ h.safe).2)
  · exact rowElse2 h.row hE (row_ne h.row g1 (by decide)) (fun r hr e => by
      obtain ⟨cur, hc⟩ := rowBlk h.row hr
      exact (ty r _ _ _ hc (by decide) (by decide)).2 e.symm)
  · intro j v c h1 h2
    refine ⟨chgElse2 (h.chg j v c h1 h2).1 hE fun g cs T fr hg hT => ty g cs T fr hg ?_ ?_, ?_⟩
    · rcases hT with rfl | rfl <;> decide
    · rcases hT with rfl | rfl <;> decide
    · have := (h.chg j v c h1 h2).2
      cases c with
      | put a b => exact hasFile_set hf hb this
      | ren a b d => exact hasFile_set hf hb this
      | del a => trivial
  · refine ⟨h.fails.1, ?_, fun a ha h0 hP => ?_⟩
    · intro h0
      obtain ⟨b, o, e, hc⟩ := h.fails.2.1 h0
      have hnp := h.fails.2.2 ⟨b, o, none⟩ e (by simpa using h0)
      refine ⟨b, o, e, fun k hk => ?_⟩
      have hck := hc k hk
      have hlt := World.block_lt_of_cell? w _ hck
      have hb2 := hE b hlt (fun e2 => hnp (by rw [e2]; exact g4)) (fun e2 => hnp (g3 b e2.symm))
      simp only [World.cell?, hb2]
      exact hck
    · rcases hP with hP | hP
      · exact h.fails.2.2 a ha h0 hP
      · rcases hrow _ hP with h1 | h1
        · exact h.fails.2.2 a ha h0 (g3 _ h1)
        · obtain ⟨b, o, e, hc⟩ := h.fails.2.1 (by simpa using h0)
          have hlt := World.block_lt_of_cell? w _ (hc 0 (by simpa using h0))
          rw [e] at ha
          injection ha with ha
          subst ha
          simp only at h1 hlt
          omega
  · intro j z hz
    by_cases hij : i = j
    · subst hij
      have hi := (List.getElem?_eq_some_iff.1 hf).1
      rw [List.getElem?_set_self hi] at hz
      obtain rfl := Option.some.inj hz
      exact ⟨by rw [hb]; exact hcell, hown, fun r hr => .inr hr, by rw [hb]; exact .inl g4, hfm⟩
    · rw [List.getElem?_set_ne hij] at hz
      obtain ⟨e1, e2, e3, e4, e5⟩ := h.files j z hz
      obtain ⟨a1, a2⟩ := apart2 j z hz (fun e => hij e.symm)
      refine ⟨keep2 hE e1 a1 (fun e => ?_), rowElse2 e2 hE (row_ne e2 g1 (by decide)) (fun r hr e => a2 r hr e), fun r hr => .inl (e3 r hr), .inl e4, e5⟩
      obtain ⟨cur, hc⟩ := rowBlk g2 e.symm
      exact blk_ne e1 hc (by decide) rfl
  · rw [List.pairwise_iff_getElem]
    intro j k hj hk hjk
    rw [List.length_set] at hj hk
    have new : ∀ (m : Nat) (z : FileC), S.files[m]? = some z → m ≠ i → z.blk ≠ f'.blk ∧ ∀ r, z.val.ownBlock = some r → f'.val.ownBlock ≠ some r := by
      intro m z hz hne
      obtain ⟨a1, a2⟩ := apart2 m z hz hne
      refine ⟨by rw [hb]; exact a1, fun r hr e => ?_⟩
      rcases hrow r e with h1 | h1
      · exact a2 r hr h1
      · obtain ⟨_, e2, _⟩ := h.files m z hz
        obtain ⟨cur, hc⟩ := rowBlk e2 hr
        have := lt_of_heap hc
        omega
    rw [List.getElem_set, List.getElem_set]
    by_cases e1 : i = j
    · rw [if_pos e1, if_neg (by omega)]
      obtain ⟨a1, a2⟩ := new k S.files[k] (List.getElem?_eq_getElem hk) (by omega)
      exact ⟨fun e => a1 e.symm, fun r hr e => a2 r e hr⟩
    · rw [if_neg e1]
      by_cases e2 : i = k
      · rw [if_pos e2]
        exact new j S.files[j] (List.getElem?_eq_getElem hj) (by omega)
      · rw [if_neg e2]
        exact (List.pairwise_iff_getElem.1 h.apart) j k hj hk hjk
  · exact fun x hx => hasFile_set hf hb (h.nowF x hx)
  · exact fun x hx => hasFile_set hf hb (h.safeF x hx)
  · exact ⟨.inl h.inP.1, .inl h.inP.2.1, .inl h.inP.2.2.1, fun r hr => .inl (h.inP.2.2.2 r hr)⟩
end Go.Proofs.YtnhfnfdmpcpcoaaDoor

/-
  A disk behind a change of its names, its maps or its pending changes.
-/
namespace Go.Proofs.YtnhfnfdmpcpcoaaDoor
open Go.RowKit Go.Maps

/-- what is cells of another type than a disk's or a row of changes' is as it was -/
def Typed (w w' : World) : Prop := ∀ (g : Nat) (cs : Array Value) (T : TypeId) (fr : Nat × Nat), w.heap[g]? = some (Obj.cells cs T fr) → T ≠ 79 → T ≠ 88 → w'.heap[g]? = some (Obj.cells cs T fr)
theorem Typed.trans {w w1 w2 : World} (h : Typed w w1) (h2 : Typed w1 w2) : Typed w w2 := fun g cs T fr e a b => h2 g cs T fr (h g cs T fr e a b) a b
theorem Typed.below {w w' : World} (hb : Below w.heap.size w w') : Typed w w' := fun _ _ _ _ e _ _ => Below.heap hb e
theorem chgTyped {w w' : World} {v : Value} {c : Chg} (h : IsChg w v c) (hT : Typed w w') : IsChg w' v c := by
  have k : ∀ (g : Nat) (cs : Array Value) (T : TypeId) (fr : Nat × Nat), w.heap[g]? = some (Obj.cells cs T fr) → T = 75 ∨ T = 9 → w'.heap[g]? = some (Obj.cells cs T fr) := fun g cs T fr h1 h2 =>
    hT g cs T fr h1 (by rcases h2 with rfl | rfl <;> decide) (by rcases h2 with rfl | rfl <;> decide)
  cases c with
  | put a f =>
    obtain ⟨bf, bk, nm, e1, e2, e3, e4, e5⟩ := h
    exact ⟨bf, bk, nm, e1, e2, e3, k _ _ _ _ e4 (.inl rfl), k _ _ _ _ e5 (.inr rfl)⟩
  | ren a b f =>
    obtain ⟨ba, bf, bk, na, nm, e1, e2, e3, e4, e5, e6, e7, e8⟩ := h
    exact ⟨ba, bf, bk, na, nm, e1, e2, e3, e4, e5, k _ _ _ _ e6 (.inr rfl), k _ _ _ _ e7 (.inl rfl), k _ _ _ _ e8 (.inr rfl)⟩
  | del a =>
    obtain ⟨bk, nm, e1, e2, e3, e4⟩ := h
    exact ⟨bk, nm, e1, e2, e3, k _ _ _ _ e4 (.inr rfl)⟩
theorem rowTyped {w w' : World} {base size n : Nat} {e : TypeId} {v : Value} {xs : List Value} (h : w.ownsRow base e size v n xs) (hT : Typed w w') (h1 : e ≠ 79) (h2 : e ≠ 88) : w'.ownsRow base e size v n xs := by
  refine ⟨h.1, ?_⟩
  rcases h.2 with h0 | ⟨g, cap, cur, rfl, hb, hg, r⟩
  · exact .inl h0
  · exact .inr ⟨g, cap, cur, rfl, hb, hT g _ _ _ hg h1 h2, r⟩

/-- the disk's cells, maps and pending changes turn; its files stay -/
theorem DiskAt.turn {w w' : World} {P P' : Nat → Prop} {dd : Nat} {S S' : DiskC} (h : DiskAt w P dd S) (hT : Typed w w') (hblk : w'.heap[dd]? = some (.cells (diskCells S') 79 (0, 0)))
    (hfiles : S'.files = S.files) (hfail : S'.fv = S.fv ∧ S'.fp = S.fp ∧ S'.fc = S.fc ∧ S'.fails = S.fails) (hcell : ∀ a, S.fp = some a → 0 < S.fails.length → w'.heap[a.block]? = w.heap[a.block]?)
    (hnow : OwnN w' S'.bn S'.now) (hsafe : OwnN w' S'.bs S'.safe) (hne : S'.bn ≠ S'.bs) (hrow : w'.ownsRow 0 88 1 S'.pv S'.pend.length S'.pvals)
    (hchg : ∀ (i : Nat) (v : Value) (c : Chg), S'.pvals[i]? = some v → S'.pend[i]? = some c → IsChg w' v c ∧ ChgFile S c) (hnowF : ∀ x ∈ S'.now, HasFile S x.2) (hsafeF : ∀ x ∈ S'.safe, HasFile S x.2)
    (hP : ∀ g, P g → P' g) (hP' : ∀ g, P' g → P g ∨ w.heap.size ≤ g) (hin : P' S'.bn ∧ P' S'.bs ∧ ∀ r, S'.pv.ownBlock = some r → P' r) : DiskAt w' P' dd S' := by
  have hf : ∀ g, HasFile S g → HasFile S' g := fun g ⟨f, hm, e⟩ => ⟨f, by rw [hfiles]; exact hm, e⟩
  refine ⟨hblk, hnow, hsafe, hne, hrow, ?_, ?_, ?_, ?_, ?_, ?_, ⟨hP _ h.inP.1, hin⟩⟩
  · intro i v c h1 h2
    obtain ⟨a, b⟩ := hchg i v c h1 h2
    refine ⟨a, ?_⟩
    cases c with
    | put k f => exact hf _ b
    | ren k j f => exact hf _ b
    | del k => trivial
  · obtain ⟨e1, e2, e3, e4⟩ := hfail
    rw [e1, e2, e3, e4]
    refine ⟨h.fails.1, ?_, fun a ha h0 hp => ?_⟩
    · intro h0
      obtain ⟨b, o, e, hc⟩ := h.fails.2.1 h0
      have hb := hcell _ e (by simpa using h0)
      refine ⟨b, o, e, fun k hk => ?_⟩
      have hck := hc k hk
      simp only at hb
      simp only [World.cell?, hb]
      exact hck
    · rcases hP' _ hp with h1 | h1
      · exact h.fails.2.2 a ha h0 h1
      · obtain ⟨b, o, e, hc⟩ := h.fails.2.1 (by simpa using h0)
        have hlt := World.block_lt_of_cell? w _ (hc 0 (by simpa using h0))
        rw [e] at ha
        injection ha with ha
        subst ha
        simp only at h1 hlt
        omega
  · intro i f hi
    rw [hfiles] at hi
    obtain ⟨a1, a2, a3, a4, a5⟩ := h.files i f hi
    exact ⟨hT _ _ _ _ a1 (by decide) (by decide), rowTyped a2 hT (by decide) (by decide), fun r hr => hP r (a3 r hr), hP _ a4, a5⟩
  · rw [hfiles]; exact h.apart
  · exact fun x hx => hf _ (hnowF x hx)
  · exact fun x hx => hf _ (hsafeF x hx)
end Go.Proofs.YtnhfnfdmpcpcoaaDoor

/-
  Rows of pairs of texts (structs of two strings), whatever their type's name.
-/
namespace Go.Proofs.YtnhfnfdmpcpcoaaDoor
open Go.RowKit

abbrev Pair := List UInt8 × List UInt8
def prV (x : Pair) : List Value := [.string ⟨x.1.toArray⟩, .string ⟨x.2.toArray⟩]
/-- the cells of pairs of texts -/
def pr : List Pair → List Value
  | [] => []
  | x :: L => prV x ++ pr L
theorem pr_length (L : List Pair) : (pr L).length = L.length * 2 := by
  induction L with
  | nil => rfl
  | cons x L ih => simp only [pr, prV, List.length_append, List.length_cons, List.length_nil, ih]; omega
theorem pr_append (L M : List Pair) : pr (L ++ M) = pr L ++ pr M := by
  induction L with
  | nil => rfl
  | cons x L ih => simp only [List.cons_append, pr, ih, List.append_assoc]
theorem pr_one (L : List Pair) : ∀ u ∈ pr L, u.oneCell' = true := by
  induction L with
  | nil => intro u hu; cases hu
  | cons x L ih =>
    intro u hu
    simp only [pr, prV, List.cons_append, List.nil_append, List.mem_cons] at hu
    rcases hu with rfl | rfl | hu
    · rfl
    · rfl
    · exact ih u hu
theorem pr_get (L : List Pair) (i : Nat) (h : i < L.length) : (pr L)[i * 2]? = some (.string ⟨L[i].1.toArray⟩) ∧ (pr L)[i * 2 + 1]? = some (.string ⟨L[i].2.toArray⟩) := by
  induction L generalizing i with
  | nil => simp at h
  | cons x L ih =>
    cases i with
    | zero => simp [pr, prV]
    | succ i =>
      have h2 := ih i (by simpa using h)
      have e1 : (i + 1) * 2 = i * 2 + 1 + 1 := by omega
      have e2 : (i + 1) * 2 + 1 = i * 2 + 1 + 1 + 1 := by omega
      rw [e2, e1]
      simpa [pr, prV] using h2

/-- pairs of texts stand at the address (whatever it is, where there are none) -/
def In2 (w : World) (p : Option Addr) (L : List Pair) : Prop :=
  0 < L.length → ∃ b o, p = some ⟨b, o, none⟩ ∧ ∀ j v, (pr L)[j]? = some v → w.cell? ⟨b, o + j, none⟩ = some v
theorem In2.at {w : World} {p : Option Addr} {L : List Pair} (h : In2 w p L) {k : Nat} (hk : k < L.length) :
    ∃ b o, p = some ⟨b, o, none⟩ ∧ ∃ x y : ByteArray, w.cell? ⟨b, o + k * 2, none⟩ = some (.string x) ∧ w.cell? ⟨b, o + k * 2 + 1, none⟩ = some (.string y) ∧ x.data.toList = L[k].1 ∧ y.data.toList = L[k].2 := by
  obtain ⟨b, o, e, hc⟩ := h (by omega)
  obtain ⟨h1, h2⟩ := pr_get L k hk
  exact ⟨b, o, e, _, _, hc _ _ h1, (by have := hc _ _ h2; rwa [← Nat.add_assoc] at this), rfl, rfl⟩
theorem In2.below {w w' : World} {p : Option Addr} {L : List Pair} (h : In2 w p L) (hb : Below w.heap.size w w') : In2 w' p L := by
  intro h0
  obtain ⟨b, o, rfl, hc⟩ := h h0
  refine ⟨b, o, rfl, fun j v hv => ?_⟩
  have := hc j v hv
  rw [hb.cell (p := ⟨b, o + j, none⟩) (World.block_lt_of_cell? w _ this)]
  exact this
theorem In2.alloc {w : World} {p : Option Addr} {L : List Pair} (h : In2 w p L) (o : Obj) : In2 (w.alloc o) p L := h.below ((Below.refl _ w).alloc (Nat.le_refl _) o)
theorem In2.drewN {w : World} {p : Option Addr} {L : List Pair} (h : In2 w p L) (n : Nat) : In2 (w.drewN n) p L := h
theorem In2.lit (w : World) (L : List Pair) (c : Array Value) (e : TypeId) (fr : Nat × Nat) (h : c.toList = pr L) : In2 (w.alloc (.cells c e fr)) (some ⟨w.heap.size, 0, none⟩) L := by
  intro _
  refine ⟨w.heap.size, 0, rfl, fun j v hv => ?_⟩
  rw [cell_of_row _ _ _ _ _ _ (heap_alloc_new w (.cells c e fr)), Nat.zero_add, ← Array.getElem?_toList, h, hv]
theorem In2.one (w : World) (x y : ByteArray) (e : TypeId) : In2 (w.alloc (.cells #[.string x, .string y] e)) (some ⟨w.heap.size, 0, none⟩) [(x.data.toList, y.data.toList)] :=
  In2.lit w _ _ e (0, 0) (by simp [pr, prV])

/-- the slice v is a row of the call's own of pairs of type e -/
def Own2 (e : TypeId) (w : World) (base : Nat) (v : Value) (L : List Pair) : Prop := w.ownsRow base e 2 v L.length (pr L)
theorem Own2.nil (e : TypeId) (w : World) (base : Nat) : Own2 e w base (.slice none 0 0) [] := World.ownsRow_nil _ _ _ _
theorem Own2.made (e : TypeId) (w : World) : Own2 e (w.alloc (.cells #[] e)) w.heap.size (.slice (some ⟨w.heap.size, 0, none⟩) 0 0) [] :=
  ⟨rfl, .inr ⟨w.heap.size, 0, #[], rfl, Nat.le_refl _, heap_alloc_new w _, by simp, by unfold maxLen; omega, rfl, rfl⟩⟩
theorem Own2.below {e : TypeId} {w w' : World} {base : Nat} {v : Value} {L : List Pair} (h : Own2 e w base v L) (hb : Below w.heap.size w w') : Own2 e w' base v L := ownsRow_below h hb
theorem Own2.mono {e : TypeId} {w : World} {base base' : Nat} {v : Value} {L : List Pair} (h : Own2 e w base v L) (hb : base' ≤ base) : Own2 e w base' v L := ownsRow_mono h hb
theorem Own2.alloc {e : TypeId} {w : World} {base : Nat} {v : Value} {L : List Pair} (h : Own2 e w base v L) (o : Obj) : Own2 e (w.alloc o) base v L := World.ownsRow.alloc h o
theorem Own2.grown {e : TypeId} {w w1 w' : World} {B : Nat} {v : Value} {L : List Pair} (hB : Below B w w1) (hs : B ≤ w1.heap.size) (hown : Own2 e w1 B v L) (hg : w1.grownBy w' v.ownBlock) : Below B w w' :=
  hB.grown hg hs (fun k e => (World.ownsRow.lt hown k e).1)
theorem Own2.shape {e : TypeId} {w : World} {base n : Nat} {v : Value} {L : List Pair} (h : Own2 e w base v L) (hn : L.length = n) :
    ∃ p c, v = .slice p n c ∧ n ≤ c ∧ c ≤ maxLen ∧ In2 w p L ∧ (∀ a, p = some a → base ≤ a.block ∧ a.block < w.heap.size ∧ a.off = 0 ∧ a.spot = none) := by
  subst hn
  have hlt := World.ownsRow.lt h
  rcases h.2 with ⟨rfl, hn⟩ | ⟨g, cap, cur, rfl, hb, hg, hnc, hcm, hcs, ht⟩
  · refine ⟨none, 0, by rw [hn], by omega, by unfold maxLen; omega, fun h0 => by omega, fun a ha => by cases ha⟩
  · refine ⟨some ⟨g, 0, none⟩, cap, rfl, hnc, hcm, fun h0 => ⟨g, 0, rfl, fun j v hv => ?_⟩, fun a ha => ?_⟩
    · rw [cell_of_row _ _ _ _ _ _ hg, Nat.zero_add, ← Array.getElem?_toList]
      have hj : j < L.length * 2 := by rw [← pr_length]; exact (List.getElem?_eq_some_iff.1 hv).1
      rw [← ht, List.getElem?_take_of_lt hj] at hv
      exact hv
    · obtain rfl := Option.some.inj ha
      exact ⟨hb, (hlt g rfl).2, rfl, rfl⟩

/-- what a program says of a type of pairs -/
structure PairT (t e : TypeId) : Prop where
  ht : Tryd.prog.underlying t = some (.slice e)
  hi : (Tryd.prog.info? e).map (fun i => (i.zero, i.size, i.bytes)) = some (some (.agg #[.string .empty, .string .empty]), 2, 32)

theorem src2 {t e : TypeId} (T : PairT t e) {w : World} {p : Option Addr} {M : List Pair} {c : Nat} (hin : In2 w p M) : Src Tryd.prog 2 t (.slice p M.length c) M.length (pr M) w := by
  by_cases h0 : 0 < M.length
  · obtain ⟨b, o, rfl, hc⟩ := hin h0
    refine Src.ofSlice w T.ht ⟨b, o, none⟩ M.length c (pr M) (pr_length M) (fun j u hu => ?_) (pr_one M)
    rw [Go.WideShapes.add_plain]; exact hc j u hu
  · obtain rfl : M = [] := List.eq_nil_of_length_eq_zero (by omega)
    cases p with
    | none => exact Src.ofNil w T.ht c
    | some a => exact Src.ofSlice w T.ht a 0 c [] rfl (fun j u hu => by simp at hu) (fun u hu => by cases hu)

section
variable {w : World}
theorem wpList_append2 {t e : TypeId} (T : PairT t e) {ops : Array Oper} {rest : List Oper} {o : Oper} {a : Act} {Q : Exit → Act → World → Prop} (hgd : o.guard = none) (s x : Operand)
    (ho : o.op = .call { callee := .builtin .append, args := #[s, x], argTypes := #[t, t] })
    (base : Nat) (v : Value) (L : List Pair) (hv : a.eval s = v) (hown : Own2 e w base v L)
    (p : Option Addr) (m c : Nat) (M : List Pair) (hm : M.length = m) (hx : a.eval x = .slice p m c) (hin : In2 w p M)
    (hr : L.length + m ≤ 6000000000000) (hbase : base ≤ w.heap.size)
    (h : ∀ v' w', Own2 e w' base v' (L ++ M) → w.grownBy w' v.ownBlock → (v' = .slice none 0 0 ↔ v = .slice none 0 0 ∧ m = 0) → wpList Tryd.prog ops Q rest (a.put o.dst v') w') : wpList Tryd.prog ops Q (o :: rest) a w := by
  subst hm
  refine wpList_append_fit w hgd s x t t ho base e (.agg #[.string .empty, .string .empty]) 2 32 T.ht T.hi rfl v L.length (pr L) hv hown _ M.length (pr M) hx (src2 T hin) (by unfold maxLen; omega) (by omega) hbase ?_
  intro v' w' ho' hg hn
  exact h v' w' (by unfold Own2; rw [List.length_append, pr_append]; exact ho') hg hn
end
end Go.Proofs.YtnhfnfdmpcpcoaaDoor

/-
  append that also tells where the result lies: in the block where the row lay, or in a new one; and up to more than the guide's bound.
-/
namespace Go.Proofs.YtnhfnfdmpcpcoaaDoor
open Go.RowKit

/-- where a grown row may lie -/
def Way (w : World) (v v' : Value) : Prop := ∀ g, v'.ownBlock = some g → v.ownBlock = some g ∨ w.heap.size ≤ g

section
variable {P : Program} (w : World)
theorem wpList_append_way {ops : Array Oper} {rest : List Oper} {o : Oper} {a : Act} {Q : Exit → Act → World → Prop} (hgd : o.guard = none) (s x : Operand) (t tx : TypeId)
    (ho : o.op = .call { callee := .builtin .append, args := #[s, x], argTypes := #[t, tx] })
    (base : Nat) (e : TypeId) (z : Value) (size bytes : Nat) (ht : P.underlying t = some (.slice e)) (hi : (P.info? e).map (fun i => (i.zero, i.size, i.bytes)) = some (some z, size, bytes))
    (hzs : z.cells.size = size)
    (v : Value) (n : Nat) (xs : List Value) (hv : a.eval s = v) (hown : w.ownsRow base e size v n xs)
    (y : Value) (m : Nat) (news : List Value) (hx : a.eval x = y) (hs : Src P size tx y m news w)
    (h63 : n + m ≤ maxLen) (hbytes : (n + m + (n + m) / 4 + 512) * bytes ≤ 281474976710656) (hbase : base ≤ w.heap.size)
    (h : ∀ v' w', w'.ownsRow base e size v' (n + m) (xs ++ news) → w.grownBy w' v.ownBlock → Way w v v' → wpList P ops Q rest (a.put o.dst v') w') : wpList P ops Q (o :: rest) a w := by
  refine wpList_plain hgd fun K hK => ?_
  obtain ⟨i, hi, hz, hz1, hz2⟩ := info_parts hi
  obtain ⟨v', w', hr, h2, h3, h4⟩ := run_append_where (P := P) w base t tx o.type e i z size bytes ht hi hz hz1 hz2 hzs v n xs hown y m news hs h63 (fun old hold => Nat.le_trans (Nat.mul_le_mul_right _ (nextslicecap_le _ _ hold)) hbytes) hbase
  unfold Oper.wp execOp
  simp only [ho, resolve, invoke, builtin, Sem.run_bind, Sem.run_pure, Result.andThen_ok, List.map_toArray, List.map_cons, List.map_nil, hv, hx, hr]
  refine hK _ _ (h v' w' h2 h3 fun g hg => ?_)
  rcases h4 with ⟨g', cap, rfl, rfl⟩ | ⟨cap, rfl, _⟩ | ⟨rfl, _, _⟩
  · exact .inl hg
  · right
    have e : some w.heap.size = some g := hg
    injection e with e
    omega
  · exact .inl hg
end

section
variable {w : World}
/-- texts onto texts of the call's own, with where the result lies -/
theorem wpList_appendSw {ops : Array Oper} {rest : List Oper} {o : Oper} {a : Act} {Q : Exit → Act → World → Prop} (hgd : o.guard = none) (s x : Operand)
    (ho : o.op = .call { callee := .builtin .append, args := #[s, x], argTypes := #[63, 63] })
    (base : Nat) (v : Value) (L : List (List UInt8)) (hv : a.eval s = v) (hown : OwnS w base v L)
    (p : Option Addr) (m c : Nat) (M : List (List UInt8)) (hm : M.length = m) (hx : a.eval x = .slice p m c) (hin : InS w p M)
    (hr : L.length + m ≤ 12000000000000) (hbase : base ≤ w.heap.size)
    (h : ∀ v' w', OwnS w' base v' (L ++ M) → w.grownBy w' v.ownBlock → Way w v v' → wpList Tryd.prog ops Q rest (a.put o.dst v') w') : wpList Tryd.prog ops Q (o :: rest) a w := by
  subst hm
  have hs : Src Tryd.prog 1 63 (.slice p M.length c) M.length (tx M) w := by
    have := srcV (c := c) (e := 9) Tryd.underlying63 hin (tx_one M)
    rwa [tx_length] at this
  refine wpList_append_way w hgd s x 63 63 ho base 9 (.string .empty) 1 16 Tryd.underlying63 infoS rfl v L.length (tx L) hv hown _ M.length (tx M) hx hs (by unfold maxLen; omega) (by omega) hbase ?_
  intro v' w' ho' hg hn
  exact h v' w' (by unfold OwnS; rw [List.length_append, tx_append]; exact ho') hg hn
/-- pairs onto pairs of the call's own, with where the result lies -/
theorem wpList_append2w {t e : TypeId} (T : PairT t e) {ops : Array Oper} {rest : List Oper} {o : Oper} {a : Act} {Q : Exit → Act → World → Prop} (hgd : o.guard = none) (s x : Operand)
    (ho : o.op = .call { callee := .builtin .append, args := #[s, x], argTypes := #[t, t] })
    (base : Nat) (v : Value) (L : List Pair) (hv : a.eval s = v) (hown : Own2 e w base v L)
    (p : Option Addr) (m c : Nat) (M : List Pair) (hm : M.length = m) (hx : a.eval x = .slice p m c) (hin : In2 w p M)
    (hr : L.length + m ≤ 6000000000000) (hbase : base ≤ w.heap.size)
    (h : ∀ v' w', Own2 e w' base v' (L ++ M) → w.grownBy w' v.ownBlock → Way w v v' → wpList Tryd.prog ops Q rest (a.put o.dst v') w') : wpList Tryd.prog ops Q (o :: rest) a w := by
  subst hm
  refine wpList_append_way w hgd s x t t ho base e (.agg #[.string .empty, .string .empty]) 2 32 T.ht T.hi rfl v L.length (pr L) hv hown _ M.length (pr M) hx (src2 T hin) (by unfold maxLen; omega) (by omega) hbase ?_
  intro v' w' ho' hg hn
  exact h v' w' (by unfold Own2; rw [List.length_append, pr_append]; exact ho') hg hn
end

theorem InV.kept {w w' : World} {row : Option Nat} {p : Option Addr} {xs : List Value} (h : InV w p xs) (hg : w.grownBy w' row) (hne : ∀ a, p = some a → row ≠ some a.block) : InV w' p xs := by
  intro h0
  obtain ⟨b, o, rfl, hc⟩ := h h0
  exact ⟨b, o, rfl, fun i hi => hg.cell (hc i hi) (fun e => hne _ rfl e.symm)⟩
theorem InS.kept {w w' : World} {row : Option Nat} {p : Option Addr} {L : List (List UInt8)} (h : InS w p L) (hg : w.grownBy w' row) (hne : ∀ a, p = some a → row ≠ some a.block) : InS w' p L := InV.kept h hg hne

/-- a row of the call's own that grows while, of what was in w1, at most the block row changes -/
def OutV (B : Nat) (row : Option Nat) (w1 : World) (e size : Nat) (v : Value) (n : Nat) (xs : List Value) (w : World) : Prop :=
  w.ownsRow B e size v n xs ∧ w1.grownBy w row ∧ ∀ g, v.ownBlock = some g → some g = row ∨ w1.heap.size ≤ g
theorem grown_below {w1 w w' : World} {row : Option Nat} (h : w1.grownBy w row) (hb : Below w.heap.size w w') : w1.grownBy w' row :=
  ⟨hb.os.trans h.os, hb.tape.trans h.tape, hb.output.trans h.output, Nat.le_trans h.size hb.size, fun i hi hn => (hb.block i (Nat.lt_of_lt_of_le hi h.size)).trans (h.block i hi hn)⟩
theorem OutV.below {B : Nat} {row : Option Nat} {w1 : World} {e size : Nat} {v : Value} {n : Nat} {xs : List Value} {w w' : World} (h : OutV B row w1 e size v n xs w) (hb : Below w.heap.size w w') : OutV B row w1 e size v n xs w' :=
  ⟨ownsRow_below h.1 hb, grown_below h.2.1 hb, h.2.2⟩
theorem OutV.alloc {B : Nat} {row : Option Nat} {w1 : World} {e size : Nat} {v : Value} {n : Nat} {xs : List Value} {w : World} (h : OutV B row w1 e size v n xs w) (o : Obj) : OutV B row w1 e size v n xs (w.alloc o) :=
  h.below ((Below.refl _ w).alloc (Nat.le_refl _) o)
theorem OutV.app {B : Nat} {row : Option Nat} {w1 : World} {e size : Nat} {v v' : Value} {n m : Nat} {xs ys : List Value} {w w' : World} (h : OutV B row w1 e size v n xs w) (hown : w'.ownsRow B e size v' m ys) (hg : w.grownBy w' v.ownBlock) (hway : Way w v v') : OutV B row w1 e size v' m ys w' := by
  refine ⟨hown, ⟨hg.os.trans h.2.1.os, hg.tape.trans h.2.1.tape, hg.output.trans h.2.1.output, Nat.le_trans h.2.1.size hg.size, fun i hi hn => ?_⟩, fun g e => ?_⟩
  · refine (hg.block i (Nat.lt_of_lt_of_le hi h.2.1.size) (fun e => ?_)).trans (h.2.1.block i hi hn)
    rcases h.2.2 i e.symm with h1 | h1
    · exact hn h1
    · omega
  · rcases hway g e with h1 | h1
    · exact h.2.2 g h1
    · right; have := h.2.1.size; omega
theorem OutV.nil (B : Nat) (w1 : World) (e size : Nat) : OutV B none w1 e size (.slice none 0 0) 0 [] w1 :=
  ⟨World.ownsRow_nil _ _ _ _, ⟨rfl, rfl, rfl, Nat.le_refl _, fun _ _ _ => rfl⟩, fun _ e => by cases e⟩
theorem OutV.start {B : Nat} {w1 : World} {e size : Nat} {v : Value} {n : Nat} {xs : List Value} (h : w1.ownsRow B e size v n xs) : OutV B v.ownBlock w1 e size v n xs w1 :=
  ⟨h, ⟨rfl, rfl, rfl, Nat.le_refl _, fun _ _ _ => rfl⟩, fun _ e => .inl e.symm⟩
theorem OutV.keepS {B : Nat} {row : Option Nat} {w1 : World} {e size : Nat} {v : Value} {n : Nat} {xs : List Value} {w : World} (h : OutV B row w1 e size v n xs w) {p : Option Addr} {M : List (List UInt8)} (hin : InS w1 p M) (hne : ∀ a, p = some a → row ≠ some a.block) : InS w p M := hin.kept h.2.1 hne
/-- what lay below the row's base is as it was -/
theorem OutV.final {B : Nat} {row : Option Nat} {w0 w1 : World} {e size : Nat} {v : Value} {n : Nat} {xs : List Value} {w : World} (h : OutV B row w1 e size v n xs w) (hb : Below w0.heap.size w0 w1) (hr : ∀ g, row = some g → w0.heap.size ≤ g) : Below w0.heap.size w0 w :=
  hb.grown h.2.1 hb.size hr
def OutS (B : Nat) (row : Option Nat) (w1 : World) (v : Value) (L : List (List UInt8)) (w : World) : Prop := OutV B row w1 9 1 v L.length (tx L) w
theorem OutS.own {B : Nat} {row : Option Nat} {w1 : World} {v : Value} {L : List (List UInt8)} {w : World} (h : OutS B row w1 v L w) : OwnS w B v L := h.1
theorem OutS.below {B : Nat} {row : Option Nat} {w1 : World} {v : Value} {L : List (List UInt8)} {w w' : World} (h : OutS B row w1 v L w) (hb : Below w.heap.size w w') : OutS B row w1 v L w' := OutV.below h hb
theorem OutS.alloc {B : Nat} {row : Option Nat} {w1 : World} {v : Value} {L : List (List UInt8)} {w : World} (h : OutS B row w1 v L w) (o : Obj) : OutS B row w1 v L (w.alloc o) := OutV.alloc h o
theorem OutS.app {B : Nat} {row : Option Nat} {w1 : World} {v v' : Value} {L M : List (List UInt8)} {w w' : World} (h : OutS B row w1 v L w) (hown : OwnS w' B v' M) (hg : w.grownBy w' v.ownBlock) (hway : Way w v v') : OutS B row w1 v' M w' := OutV.app h hown hg hway
end Go.Proofs.YtnhfnfdmpcpcoaaDoor

/-
  alter: a change is made and kept.
-/
namespace Go.Proofs.YtnhfnfdmpcpcoaaDoor
open Go.RowKit Go.Maps

theorem infoC : (Tryd.prog.info? 88).map (fun i => (i.zero, i.size, i.bytes)) = some (some .nilFunc, 1, 8) := by kernel_rfl
theorem chg_form {w : World} {v : Value} {c : Chg} (h : IsChg w v c) : v.oneCell' = true := by
  cases c with
  | put k f => obtain ⟨bf, bk, nm, _, _, rfl, _⟩ := h; rfl
  | ren a k f => obtain ⟨ba, bf, bk, na, nm, _, _, _, _, rfl, _⟩ := h; rfl
  | del k => obtain ⟨bk, nm, _, _, rfl, _⟩ := h; rfl

set_option maxHeartbeats 4000000 in
theorem chg_enter {w : World} {g : Nat} {cap : Array Value} {c : Chg} (hc : IsChg w (.func (.func g) #[] cap) c) : ∀ (args : Array Value) (w : World), (callFunc g args).run Tryd.prog w = .ok (.enter g args) w := by
  cases c with
  | put k f =>
    obtain ⟨bf, bk, nm, _, _, e, _⟩ := hc
    injection e with e
    injection e with e
    subst e
    exact enters_of Tryd.func44 (by kernel_rfl) rfl
  | ren a k f =>
    obtain ⟨ba, bf, bk, na, nm, _, _, _, _, e, _⟩ := hc
    injection e with e
    injection e with e
    subst e
    exact enters_of Tryd.func66 (by kernel_rfl) rfl
  | del k =>
    obtain ⟨bk, nm, _, _, e, _⟩ := hc
    injection e with e
    injection e with e
    subst e
    exact enters_of Tryd.func67 (by kernel_rfl) rfl

set_option maxHeartbeats 4000000 in
set_option maxRecDepth 100000 in
theorem alter_any {w : World} {P : Nat → Prop} {dd : Nat} {S : DiskC} (h : DiskAt w P dd S) (v : Value) (c : Chg) (hc : IsChg w v c) (hcf : ChgFile S c) (hl : S.now.length ≤ 4000000000000) (hp : S.pend.length ≤ 1000000) :
    Calls Tryd.prog 43 #[.pointer (some ⟨dd, 0, none⟩), v] w fun e w' => e = .returned (.int .i64 0) ∧ (∃ pv' P', DiskAt w' P' dd { S with now := applyC c S.now, pend := S.pend ++ [c], pvals := S.pvals ++ [v], pv := pv' } ∧ ∀ g, P' g → P g ∨ w.heap.size ≤ g) ∧ Only P w w' := by
  obtain ⟨g, cap, rfl, hcall⟩ := chg_call h.now hc (by unfold maxLen; omega)
  have c0 : w.cell? ⟨dd, 0, none⟩ = some (.map (some S.bn)) := h.cell 0
  have hent := chg_enter hc
  go_enter Tryd.func43, Tryd.ntmps43
  go_wp2_with fail
  refine hcall.mono ?_
  rintro e w1 ⟨rfl, hnow1, hg1, hsz1⟩
  clear hcall hent
  have hE1 : Else w w1 S.bn := fun k hk => by
    by_cases hlt : k < w.heap.size
    · exact hg1.block k hlt (fun e => hk (by injection e))
    · rw [Array.getElem?_eq_none (by omega), Array.getElem?_eq_none (by omega)]
  have hmn : ∀ (k : Nat) (cs : Array Value) (T : TypeId) (fr : Nat × Nat), w.heap[k]? = some (Obj.cells cs T fr) → w1.heap[k]? = some (Obj.cells cs T fr) := fun k cs T fr hk => (hE1 k (fun e => map_ne h.now hk e.symm)).trans hk
  have hblk1 := hmn _ _ _ _ h.blk
  have hrow1 : w1.ownsRow 0 88 1 S.pv S.pend.length S.pvals := rowElse h.row hE1 (fun e => by
    obtain ⟨cur, hc2⟩ := rowBlk h.row e
    exact map_ne h.now hc2 rfl)
  have hc1 : IsChg w1 (.func (.func g) #[] cap) c := chgTyped hc (fun k cs T fr hk _ _ => hmn k cs T fr hk)
  have hsafe1 : OwnN w1 S.bs S.safe := h.safe.kept (hE1 _ (fun e => h.ne e.symm))
  have c2 : w1.cell? ⟨dd, 2, none⟩ = some S.pv := by rw [cell_of_row _ _ _ _ _ _ hblk1]; rfl
  have hown3 := World.ownsRow.alloc hrow1 (.cells #[.func (.func g) #[] cap] 88)
  have hsrc := srcV (c := 1) (e := 88) (t := 77) Tryd.underlying77 (InV.one w1 (.func (.func g) #[] cap) 88) (by intro u hu; rw [List.mem_singleton.1 hu]; rfl)
  have H := Lib.hid h
  have HC1 := Lib.hid hc1
  have HC := Lib.hid hc
  have HSZ := Lib.hid hsz1
  clear hc hc1 h hsz1
  go_wp2_with (
    at_builtin
    refine wpList_append_way _ rfl _ _ 77 77 rfl 0 88 .nilFunc 1 8 Tryd.underlying77 infoC rfl _ S.pend.length S.pvals rfl hown3 _ 1 [.func (.func g) #[] cap] rfl hsrc (by unfold maxLen; omega) (by omega) (by omega) ?_
    intro v4 w4 hown4 hgrow4 hway4
    have hblk4 := (hgrow4.block dd (by have := lt_of_heap hblk1; simp; omega) (fun e => row_ne hrow1 hblk1 (by decide) e.symm)).trans ((heap_alloc_old _ _ (lt_of_heap hblk1)).trans hblk1)
    have d2 : w4.cell? ⟨dd, 2, none⟩ = some S.pv := by rw [cell_of_row _ _ _ _ _ _ hblk4]; rfl
    have f4 := fun i => frozen_of_row w4 dd i _ _ hblk4
    have H4 := Lib.hid hway4
    obtain ⟨p4, c4, rfl, z1, z2, _, _⟩ := owns_shape hown4)
  go_ret
  have h := H.out
  have hsz := HSZ.out
  obtain ⟨wa, hwa⟩ : ∃ W0, W0 = w1.alloc (.cells #[.func (.func g) #[] cap] 88) := ⟨_, rfl⟩
  have hba : Below w1.heap.size w1 wa := by rw [hwa]; exact (Below.refl _ w1).alloc (Nat.le_refl _) _
  have hga : wa.grownBy w4 S.pv.ownBlock := by rw [hwa]; exact hgrow4
  have hwy : Way wa S.pv (.slice p4 (S.pend.length + 1) c4) := by rw [hwa]; exact hway4
  obtain ⟨w5, hw5⟩ : ∃ W0, W0 = w4.setCell ⟨dd, 2, none⟩ (.slice p4 (S.pend.length + 1) c4) := ⟨_, rfl⟩
  rw [← hw5]
  have hE5 : Else w4 w5 dd := fun k hk => by rw [hw5]; exact Below.heap_setCell _ _ _ _ hk
  have hblk5 : w5.heap[dd]? = some (.cells (diskCells { S with now := applyC c S.now, pend := S.pend ++ [c], pvals := S.pvals ++ [.func (.func g) #[] cap], pv := .slice p4 (S.pend.length + 1) c4 }) 79 (0, 0)) := by
    rw [hw5]
    simp only [World.setCell, Array.getElem?_modify, hblk4]
    simp [diskCells]
  have pvr : ∀ (k : Nat) (cs : Array Value) (T : TypeId) (fr : Nat × Nat), w1.heap[k]? = some (Obj.cells cs T fr) → T ≠ 88 → w4.heap[k]? = some (Obj.cells cs T fr) := fun k cs T fr hk hT =>
    have hk2 := Below.heap hba hk
    (hga.block k (lt_of_heap hk2) (fun e => row_ne hrow1 hk (fun e2 => hT e2.symm) e.symm)).trans hk2
  have hT15 : Typed w w5 := fun k cs T fr hk t1 t2 => by
    have h4 := pvr k cs T fr (hmn k cs T fr hk) t2
    exact (hE5 k (blk_ne h4 hblk4 t1)).trans h4
  have mapk : ∀ (b : Nat) (M : NM), OwnN w1 b M → OwnN w5 b M := fun b M hM => by
    have h2 := hM.below hba
    have h4 : OwnN w4 b M := h2.kept (hga.block b h2.lt (fun e => by
      obtain ⟨cur, hc⟩ := rowBlk hrow1 e.symm
      exact map_ne hM hc rfl))
    exact h4.kept (hE5 b (map_ne h4 hblk4))
  have hlen : S.pvals.length = S.pend.length := by have := h.row.1; omega
  have hd : DiskAt w5 (fun k => P k ∨ (Value.slice p4 (S.pend.length + 1) c4).ownBlock = some k) dd { S with now := applyC c S.now, pend := S.pend ++ [c], pvals := S.pvals ++ [.func (.func g) #[] cap], pv := .slice p4 (S.pend.length + 1) c4 } := by
    refine h.turn hT15 hblk5 rfl ⟨rfl, rfl, rfl, rfl⟩ (fun a ha h0 => ?_) (mapk _ _ hnow1) (mapk _ _ hsafe1) h.ne ?_ ?_ ?_ h.safeF (fun k hk => .inl hk) ?_ ⟨.inl h.inP.2.1, .inl h.inP.2.2.1, fun r hr => .inr hr⟩
    · have hnp := h.fails.2.2 a ha h0
      obtain ⟨b, o, e, hcc⟩ := h.fails.2.1 (by simpa using h0)
      have hlt := World.block_lt_of_cell? w _ (hcc 0 (by simpa using h0))
      rw [e] at ha
      injection ha with ha
      subst ha
      simp only at hlt hnp
      have e1 := hE1 b (fun e => hnp (by rw [e]; exact h.inP.2.1))
      have e2 := hba.block b (by omega)
      have e3 := hga.block b (by have := hba.size; omega) (fun e => hnp (h.inP.2.2.2 b e.symm))
      have e4 := hE5 b (fun e => hnp (by rw [e]; exact h.inP.1))
      exact ((e4.trans e3).trans e2).trans e1
    · show w5.ownsRow 0 88 1 (.slice p4 (S.pend.length + 1) c4) (S.pend ++ [c]).length (S.pvals ++ [.func (.func g) #[] cap])
      rw [List.length_append]
      exact rowElse hown4 hE5 (row_ne hown4 hblk4 (by decide))
    · intro j v' c' h1 h2
      simp only at h1 h2
      by_cases hj : j < S.pend.length
      · rw [List.getElem?_append_left (by omega)] at h1 h2
        obtain ⟨a, b⟩ := h.chg j v' c' h1 h2
        exact ⟨chgTyped a hT15, b⟩
      · have hlt2 := (List.getElem?_eq_some_iff.1 h2).1
        rw [List.length_append] at hlt2
        simp only [List.length_cons, List.length_nil] at hlt2
        obtain rfl : j = S.pend.length := by omega
        rw [List.getElem?_append_right (by omega)] at h1 h2
        simp only [Nat.sub_self, hlen, List.getElem?_cons_zero, Option.some.injEq] at h1 h2
        subst h1 h2
        exact ⟨chgTyped HC.out hT15, hcf⟩
    · intro x hx
      cases c with
      | put k f =>
        rcases insN_mem k f x S.now hx with e | e
        · rw [e]; exact hcf
        · exact h.nowF x e
      | ren a k f =>
        rcases insN_mem k f x _ hx with e | e
        · rw [e]; exact hcf
        · exact h.nowF x (List.mem_filter.1 e).1
      | del k => exact h.nowF x (List.mem_filter.1 hx).1
    · intro k hk
      rcases hk with hk | hk
      · exact .inl hk
      · rcases hwy k hk with e | e
        · exact .inl (h.inP.2.2.2 k e)
        · have := hba.size; exact .inr (by omega)
  refine ⟨rfl, ⟨_, _, hd, fun k hk => ?_⟩, ?_⟩
  · rcases hk with hk | hk
    · exact .inl hk
    · rcases hwy k hk with e | e
      · exact .inl (h.inP.2.2.2 k e)
      · have := hba.size; exact .inr (by omega)
  · have hos : w4.os = w.os := hga.os.trans (hba.os.trans hg1.os)
    have hot : w4.tape = w.tape := hga.tape.trans (hba.tape.trans hg1.tape)
    have hoo : w4.output = w.output := hga.output.trans (hba.output.trans hg1.output)
    have hz4 := hga.size
    have hza := hba.size
    refine ⟨by rw [hw5]; exact hos, by rw [hw5]; exact hot, by rw [hw5]; exact hoo, by rw [hw5]; simp only [World.setCell]; simp; omega, fun k hk hnk => ?_⟩
    have e1 := hE1 k (fun e => hnk (by rw [e]; exact h.inP.2.1))
    have e2 := hba.block k (by omega)
    have e3 := hga.block k (by omega) (fun e => hnk (h.inP.2.2.2 k e.symm))
    have e4 := hE5 k (fun e => hnk (by rw [e]; exact h.inP.1))
    exact ((e4.trans e3).trans e2).trans e1
end Go.Proofs.YtnhfnfdmpcpcoaaDoor

/-
  A disk behind a new file.
-/
namespace Go.Proofs.YtnhfnfdmpcpcoaaDoor
open Go.RowKit Go.Maps

theorem hasFile_add {S : DiskC} (f : FileC) {g : Nat} (h : HasFile S g) : HasFile { S with files := S.files ++ [f] } g := by
  obtain ⟨z, hz, e⟩ := h
  exact ⟨z, List.mem_append_left _ hz, e⟩
theorem hasFile_new {S : DiskC} (f : FileC) : HasFile { S with files := S.files ++ [f] } f.blk := ⟨f, by simp, rfl⟩

/-- one file more -/
theorem DiskAt.addFile {w w' : World} {P : Nat → Prop} {dd : Nat} {S : DiskC} (h : DiskAt w P dd S) (f : FileC) (hE : Else2 w w' dd none) (hblk : w'.heap[dd]? = some (.cells (diskCells { S with files := S.files ++ [f] }) 79 (0, 0)))
    (hcell : w'.heap[f.blk]? = some (.cells #[.int .i64 S.files.length, f.val, .int .i64 f.firm] 81 (0, 0))) (hown : Own8 w' 0 f.val f.data) (hnew : w.heap.size ≤ f.blk) (hrow : ∀ r, f.val.ownBlock = some r → w.heap.size ≤ r) (hfm : f.firm ≤ f.data.length) :
    DiskAt w' (fun g => P g ∨ g = f.blk ∨ f.val.ownBlock = some g) dd { S with files := S.files ++ [f] } := by
  have nn : ∀ g : Nat, some g ≠ none := fun g e => by cases e
  have ty : ∀ (g : Nat) (cs : Array Value) (T : TypeId) (fr : Nat × Nat), w.heap[g]? = some (Obj.cells cs T fr) → T ≠ 79 → g ≠ dd := fun g cs T fr hg t1 => blk_ne hg h.blk t1
  refine ⟨hblk, ?_, ?_, h.ne, ?_, ?_, ?_, ?_, ?_, ?_, ?_, ?_⟩
  · exact h.now.kept (hE _ h.now.lt (map_ne h.now h.blk) (nn _))
  · exact h.safe.kept (hE _ h.safe.lt (map_ne h.safe h.blk) (nn _))
  · exact rowElse2 h.row hE (row_ne h.row h.blk (by decide)) (fun r hr e => by cases e)
  · intro j v c h1 h2
    refine ⟨chgElse2 (h.chg j v c h1 h2).1 hE fun g cs T fr hg hT => ⟨ty g cs T fr hg ?_, nn _⟩, ?_⟩
    · rcases hT with rfl | rfl <;> decide
    · have := (h.chg j v c h1 h2).2
      cases c with
      | put a b => exact hasFile_add f this
      | ren a b d => exact hasFile_add f this
      | del a => trivial
  · refine ⟨h.fails.1, ?_, fun a ha h0 hP => ?_⟩
    · intro h0
      obtain ⟨b, o, e, hc⟩ := h.fails.2.1 h0
      have hnp := h.fails.2.2 ⟨b, o, none⟩ e (by simpa using h0)
      refine ⟨b, o, e, fun k hk => ?_⟩
      have hck := hc k hk
      have hlt := World.block_lt_of_cell? w _ hck
      have hb2 := hE b hlt (fun e2 => hnp (by rw [e2]; exact h.inP.1)) (nn _)
      simp only [World.cell?, hb2]
      exact hck
    · obtain ⟨b, o, e, hc⟩ := h.fails.2.1 (by simpa using h0)
      have hlt := World.block_lt_of_cell? w _ (hc 0 (by simpa using h0))
      have hnp := h.fails.2.2 a ha h0
      rw [e] at ha
      injection ha with ha
      subst ha
      simp only at hlt hP hnp
      rcases hP with hP | hP | hP
      · exact hnp hP
      · omega
      · have := hrow _ hP; omega
  · intro j z hz
    by_cases hj : j < S.files.length
    · rw [List.getElem?_append_left hj] at hz
      obtain ⟨e1, e2, e3, e4, e5⟩ := h.files j z hz
      exact ⟨keep2 hE e1 (ty _ _ _ _ e1 (by decide)) (nn _), rowElse2 e2 hE (row_ne e2 h.blk (by decide)) (fun r hr e => by cases e), fun r hr => .inl (e3 r hr), .inl e4, e5⟩
    · have hlt2 := (List.getElem?_eq_some_iff.1 hz).1
      rw [List.length_append] at hlt2
      simp only [List.length_cons, List.length_nil] at hlt2
      obtain rfl : j = S.files.length := by omega
      rw [List.getElem?_append_right (Nat.le_refl _)] at hz
      simp only [Nat.sub_self, List.getElem?_cons_zero, Option.some.injEq] at hz
      subst hz
      exact ⟨hcell, hown, fun r hr => .inr (.inr hr), .inr (.inl rfl), hfm⟩
  · rw [List.pairwise_append]
    refine ⟨h.apart, List.pairwise_singleton _ _, fun z hz y hy => ?_⟩
    rw [List.mem_singleton.1 hy]
    obtain ⟨j, hj, e⟩ := List.getElem_of_mem hz
    obtain ⟨e1, e2, _⟩ := h.files j z (by rw [List.getElem?_eq_getElem hj, e])
    refine ⟨fun e3 => ?_, fun r hr e3 => ?_⟩
    · have := lt_of_heap e1; omega
    · obtain ⟨cur, hc⟩ := rowBlk e2 hr
      have := lt_of_heap hc
      have := hrow r e3
      omega
  · exact fun x hx => hasFile_add f (h.nowF x hx)
  · exact fun x hx => hasFile_add f (h.safeF x hx)
  · exact ⟨.inl h.inP.1, .inl h.inP.2.1, .inl h.inP.2.2.1, fun r hr => .inl (h.inP.2.2.2 r hr)⟩
end Go.Proofs.YtnhfnfdmpcpcoaaDoor

/-
  The bytes of all files, in whatever order they come.
-/
namespace Go.Proofs.YtnhfnfdmpcpcoaaDoor
open Go.RowKit Go.Maps

def datF (S : DiskC) (g : Nat) : BS := match S.files.find? (fun f => decide (f.blk = g)) with | some f => f.data | none => []
def sumF (f : BS × Nat → Nat) (left : Lit → Bool) (M : NM) : Nat := ((M.filter fun x => !left (.string x.1)).map f).sum
def usedS (S : DiskC) : Nat := (S.now.map fun x => (datF S x.2).length).sum

theorem sumF_start (f : BS × Nat → Nat) (left : Lit → Bool) : ∀ M : NM, (∀ x ∈ M, left (.string x.1) = true) → sumF f left M = 0
  | [], _ => rfl
  | x :: M, h => by
    unfold sumF
    rw [List.filter_cons, if_neg (by rw [h x (List.mem_cons_self ..)]; simp)]
    exact sumF_start f left M fun y hy => h y (List.mem_cons_of_mem _ hy)
theorem sumF_end (f : BS × Nat → Nat) (left : Lit → Bool) (h : ∀ kl, left kl = false) (M : NM) : sumF f left M = (M.map f).sum := by
  unfold sumF
  rw [List.filter_eq_self.2 (fun x _ => by rw [h]; rfl)]
theorem sumF_same (f : BS × Nat → Nat) (left : Lit → Bool) (k : BS) (M : NM) (h : ∀ x ∈ M, x.1 ≠ k) : sumF f (fun z => left z && !z.sameKey (.string k)) M = sumF f left M := by
  unfold sumF
  congr 2
  apply List.filter_congr
  intro x hx
  show (!(left (.string x.1) && !(Lit.string x.1).sameKey (.string k))) = _
  rw [same_str, decide_eq_false (h x hx)]
  simp
theorem sumF_step (f : BS × Nat → Nat) (left : Lit → Bool) (k : BS) (b : Nat) (hl : left (.string k) = true) : ∀ M : NM, Rises M → (k, b) ∈ M → sumF f (fun z => left z && !z.sameKey (.string k)) M = sumF f left M + f (k, b)
  | [], _, h => by cases h
  | (m, g) :: M, hr, h => by
    unfold Rises at hr
    rw [List.pairwise_cons] at hr
    by_cases e : m = k
    · subst e
      have hne : ∀ x ∈ M, x.1 ≠ m := fun x hx e2 => by have := hr.1 x hx; simp only at this; rw [e2] at this; exact List.lt_irrefl _ this
      have hg : g = b := by
        rcases List.mem_cons.1 h with h | h
        · injection h with _ h; exact h.symm
        · exact absurd rfl (hne _ h)
      subst hg
      have hs := sumF_same f left m M hne
      unfold sumF at hs ⊢
      rw [List.filter_cons, if_pos (by show (!(left (.string m) && !(Lit.string m).sameKey (.string m))) = true; rw [same_str]; simp), List.filter_cons, if_neg (by rw [hl]; simp), List.map_cons, List.sum_cons, hs]
      omega
    · have h2 : (k, b) ∈ M := by
        rcases List.mem_cons.1 h with h | h
        · injection h with h _; exact absurd h.symm e
        · exact h
      have ih := sumF_step f left k b hl M hr.2 h2
      unfold sumF at ih ⊢
      rw [List.filter_cons, List.filter_cons]
      have hp : (!(left (.string m) && !(Lit.string m).sameKey (.string k))) = !left (.string m) := by rw [same_str, decide_eq_false e]; simp
      simp only [hp]
      split
      · rw [List.map_cons, List.sum_cons, List.map_cons, List.sum_cons, ih]; omega
      · exact ih
theorem sumF_le (f : BS × Nat → Nat) (left : Lit → Bool) : ∀ M : NM, sumF f left M ≤ (M.map f).sum
  | [] => Nat.le_refl _
  | x :: M => by
    have ih := sumF_le f left M
    unfold sumF at ih ⊢
    rw [List.filter_cons]
    split
    · rw [List.map_cons, List.sum_cons, List.map_cons, List.sum_cons]; omega
    · rw [List.map_cons, List.sum_cons]; omega
theorem Dm_has (k : BS) (M : NM) : Maps.has (Dm M) (.string k) = M.any fun x => decide (x.1 = k) := by
  show (M.map encN).any _ = _
  rw [List.any_map]
  congr 1
  funext x
  exact same_str x.1 k
theorem Dm_has_mem (M : NM) (x : BS × Nat) (h : x ∈ M) : Maps.has (Dm M) (.string x.1) = true := by
  rw [Dm_has, List.any_eq_true]
  exact ⟨x, h, by simp⟩
theorem Dm_mem {M : NM} {k : BS} {o : Option Nat} (h : ∀ zd, (Dm M).atKey (.string k) zd = fileD o) : ∃ b, o = some b ∧ (k, b) ∈ M := by
  have h1 := h (fileD none)
  rw [Dm_at] at h1
  have e : lookN M k = o := by
    have := fileR_inv (v := fileV (lookN M k)) (o := o) (ps := []) (by rw [fileR_mk, h1])
    cases hl : lookN M k with
    | none => rw [hl] at this; cases o with
      | none => rfl
      | some b => cases this
    | some a => rw [hl] at this; cases o with
      | none => cases this
      | some b => injection this with e; injection e with e; injection e with e; rw [e]
  cases o with
  | some b => exact ⟨b, rfl, lookN_mem _ _ _ e⟩
  | none =>
    exfalso
    have h2 := h (.lit (.int .i64 7))
    have h3 : ∀ (L : NM) (zd : DataW Unit), lookN L k = none → (Dm L).atKey (.string k) zd = zd := by
      intro L zd
      induction L with
      | nil => intro _; rfl
      | cons y L ih =>
        intro hl
        rw [lookN_cons] at hl
        split at hl
        · cases hl
        · rename_i hne
          have ih := ih hl
          unfold Dm DataW.atKey at ih ⊢
          simp only [List.map_cons, List.find?_cons]
          have : ((encN y).1.sameKey (.string k)) = false := by
            show (Lit.string y.1).sameKey (.string k) = false
            rw [same_str]; exact decide_eq_false hne
          simp only [this]
          exact ih
    rw [h3 M _ e] at h2
    simp [fileD] at h2
theorem datF_mem {S : DiskC} {f : FileC} (hp : S.files.Pairwise fun f g => f.blk ≠ g.blk ∧ ∀ r, f.val.ownBlock = some r → g.val.ownBlock ≠ some r) (hf : f ∈ S.files) : datF S f.blk = f.data := by
  have : ∀ F : List FileC, (F.Pairwise fun f g => f.blk ≠ g.blk ∧ ∀ r, f.val.ownBlock = some r → g.val.ownBlock ≠ some r) → f ∈ F → F.find? (fun z => decide (z.blk = f.blk)) = some f := by
    intro F
    induction F with
    | nil => intro _ h; cases h
    | cons z F ih =>
      intro hp h
      rw [List.pairwise_cons] at hp
      rw [List.find?_cons]
      rcases List.mem_cons.1 h with h | h
      · subst h; simp
      · have : decide (z.blk = f.blk) = false := decide_eq_false (hp.1 f h).1
        rw [this]
        exact ih hp.2 h
  unfold datF
  rw [this _ hp hf]
end Go.Proofs.YtnhfnfdmpcpcoaaDoor

/-
  Sync: a file's bytes are safe.
-/
namespace Go.Proofs.YtnhfnfdmpcpcoaaDoor
open Go.RowKit Go.Maps

/-- the files, of which the one in block g turns -/
def setF (g : Nat) (u : FileC → FileC) (F : List FileC) : List FileC := F.map fun f => if f.blk = g then u f else f
theorem setF_set (g : Nat) (u : FileC → FileC) (F : List FileC) (i : Nat) (f : FileC) (hf : F[i]? = some f) (hg : f.blk = g) (ha : F.Pairwise fun f g => f.blk ≠ g.blk ∧ ∀ r, f.val.ownBlock = some r → g.val.ownBlock ≠ some r) : setF g u F = F.set i (u f) := by
  obtain ⟨hi, ei⟩ := List.getElem?_eq_some_iff.1 hf
  unfold setF
  apply List.ext_getElem
  · simp
  · intro j h1 h2
    have hj : j < F.length := by simpa using h1
    rw [List.getElem_map, List.getElem_set]
    by_cases hij : i = j
    · subst hij
      rw [if_pos rfl, ei, if_pos hg]
    · rw [if_neg hij, if_neg]
      intro e
      have hp := List.pairwise_iff_getElem.1 ha
      rcases Nat.lt_or_gt_of_ne hij with hlt | hlt
      · have := (hp i j hi hj hlt).1
        rw [ei, hg] at this
        exact this e.symm
      · have := (hp j i hj hi hlt).1
        rw [ei, hg] at this
        exact this e
def syncS (S : DiskC) (k : List UInt8) : DiskC :=
  match onF S [] k with
  | none => beginS S
  | some g => { beginS S with files := setF g (fun f => { f with firm := f.data.length }) (beginS S).files }
theorem onE_F (S : DiskC) (L : List (List UInt8)) (k : List UInt8) : (onE S L k = 0 ↔ ∃ g, onF S L k = some g) := by
  unfold onE onF
  by_cases h : beginE S (L ++ [k]) ≠ 0
  · rw [if_pos h, if_pos h]
    exact ⟨fun e => absurd e h, fun ⟨g, e⟩ => by cases e⟩
  · rw [if_neg h, if_neg h]
    cases lookN S.now k with
    | none => simp
    | some g => simp

set_option maxHeartbeats 4000000 in
theorem sync_any {w : World} {P : Nat → Prop} {dd : Nat} {S : DiskC} (h : DiskAt w P dd S) (nm : ByteArray) (hnm : nm.size ≤ 140737488351232) (hst : S.steps ≤ 1000000) (hfl : S.fails.length ≤ 17592186043904) :
    Calls Tryd.prog 15 #[.pointer (some ⟨dd, 0, none⟩), .string nm] w fun e w' => e = .returned (.int .i64 (onE S [] nm.data.toList)) ∧ (∃ P', DiskAt w' P' dd (syncS S nm.data.toList) ∧ ∀ g, P' g → P g) ∧ Only P w w' := by
  have hon := on_any h (Below.refl _ w) nm hnm (.slice none 0 0) [] (OwnS.nil _ _) (by simp) (by simp) hst hfl
  have hif := onE_F S [] nm.data.toList
  obtain ⟨en, hen⟩ : ∃ en, en = onE S [] nm.data.toList := ⟨_, rfl⟩
  rw [← hen] at hon hif ⊢
  have hsub : ∀ w', Only (fun g => g = dd) w w' → Only P w w' := fun w' ho => ⟨ho.os, ho.tape, ho.output, ho.size, fun k hk hne => ho.block k hk (fun e => hne (by rw [e]; exact h.inP.1))⟩
  have HSUB := Lib.hid hsub
  clear hen hsub
  cases hf : onF S [] nm.data.toList with
  | none =>
    have hz : ¬ en = 0 := fun e => by obtain ⟨g, e2⟩ := hif.1 e; rw [hf] at e2; cases e2
    have hz2 : (en == 0) = false := beq_eq_false_iff_ne.2 hz
    have HS := Lib.hid (show syncS S nm.data.toList = beginS S by unfold syncS; rw [hf])
    rw [hf] at hon
    clear hif hf
    go_enter Tryd.func15, Tryd.ntmps15
    go_wp2_with fail
    refine hon.mono ?_
    rintro e w1 ⟨rfl, h1, ho1, _⟩
    clear hon
    go_wp2_with fail
    go_ret
    exact ⟨rfl, ⟨P, by rw [HS.out]; exact h1, fun _ hg => hg⟩, HSUB.out _ ho1⟩
  | some g =>
    have hz : en = 0 := hif.2 ⟨g, hf⟩
    subst hz
    have HS := Lib.hid (show syncS S nm.data.toList = { beginS S with files := setF g (fun f => { f with firm := f.data.length }) (beginS S).files } by unfold syncS; rw [hf])
    have hnow : lookN S.now nm.data.toList = some g := by
      unfold onF at hf
      split at hf
      · cases hf
      · exact hf
    have hmem := lookN_mem _ _ _ hnow
    rw [hf] at hon
    unfold fileV at hon
    clear hif hf hnow
    go_enter Tryd.func15, Tryd.ntmps15
    go_wp2_with fail
    refine hon.mono ?_
    rintro e w1 ⟨rfl, h1, ho1, _⟩
    clear hon
    have hmem1 : (nm.data.toList, g) ∈ (beginS S).now := by rw [(beginS_now S).1]; exact hmem
    obtain ⟨f, hfm, hfg⟩ := h1.nowF _ hmem1
    obtain ⟨i, hi, ei⟩ := List.getElem_of_mem hfm
    have hfi : (beginS S).files[i]? = some f := by rw [List.getElem?_eq_getElem hi, ei]
    obtain ⟨b1, b2, b3, b4, b5⟩ := h1.files i f hfi
    simp only at hfg
    subst hfg
    obtain ⟨pv, cv, hval, k1, k2, _⟩ := b2.in8n rfl
    have c1 : w1.cell? ⟨f.blk, 1, none⟩ = some (.slice pv f.data.length cv) := by rw [cell_of_row _ _ _ _ _ _ b1, ← hval]; rfl
    have c2 : w1.cell? ⟨f.blk, 2, none⟩ = some (.int .i64 f.firm) := by rw [cell_of_row _ _ _ _ _ _ b1]; rfl
    have f2 := fun i => frozen_of_row w1 f.blk i _ _ b1
    go_wp2_with fail
    go_ret
    obtain ⟨w2, hw2⟩ : ∃ W0, W0 = w1.setCell ⟨f.blk, 2, none⟩ (.int .i64 f.data.length) := ⟨_, rfl⟩
    rw [← hw2]
    have hcell : w2.heap[f.blk]? = some (.cells #[.int .i64 i, f.val, .int .i64 f.data.length] 81 (0, 0)) := by
      rw [hw2]
      simp only [World.setCell, Array.getElem?_modify, b1]
      simp
    have hother : ∀ k, k ≠ f.blk → w2.heap[k]? = w1.heap[k]? := fun k hk => by rw [hw2]; exact Below.heap_setCell _ _ _ _ hk
    have hne := row_ne b2 b1 (by decide)
    have h2 := h1.setFile (f' := { f with firm := f.data.length }) hfi rfl hcell (fun k _ hk _ => hother k hk) (rowElse b2 hother hne) (fun r hr => .inl hr) (Nat.le_refl _)
    have ho2 : Only P w w2 := by
      have ho := HSUB.out _ ho1
      refine ⟨?_, ?_, ?_, ?_, fun k hk hnk => (hother k (fun e => hnk (by rw [e]; exact b4))).trans (ho.block k hk hnk)⟩
      · rw [hw2]; exact ho.os
      · rw [hw2]; exact ho.tape
      · rw [hw2]; exact ho.output
      · rw [hw2]; simpa [World.setCell] using ho.size
    refine ⟨rfl, ⟨fun g => P g ∨ f.val.ownBlock = some g, ?_, fun g hg => ?_⟩, ho2⟩
    · rw [HS.out, setF_set f.blk _ _ i f hfi rfl h1.apart]
      exact h2
    · rcases hg with hg | hg
      · exact hg
      · exact b3 g hg
end Go.Proofs.YtnhfnfdmpcpcoaaDoor

/-
  A disk as plain data: the files by their numbers.
-/
namespace Go.Proofs.YtnhfnfdmpcpcoaaDoor
open Go.RowKit Go.Maps

structure Pl where
  now : NM
  safe : NM
  pend : List Chg
  files : List (BS × Nat)
  room : Nat
  fails : List Int
  power : Int
  steps : Nat
inductive Opp where
  | create (k : BS)
  | append (k d : BS)
  | sync (k : BS)
  | names
  | rename (a b : BS)
  | remove (k : BS)
def downP (A : Pl) : Bool := decide (0 ≤ A.power ∧ (A.steps : Int) = A.power)
def begP (A : Pl) (L : List BS) : Int := if downP A = true then 93 else if A.fails.contains ((A.steps : Int) + 1) = true then 94 else if L.any badN = true then 95 else 0
def tickP (A : Pl) : Pl := if downP A = true then A else { A with steps := A.steps + 1 }
def onP (A : Pl) (L : List BS) (k : BS) : Int := if begP A (L ++ [k]) ≠ 0 then begP A (L ++ [k]) else if lookN A.now k = none then 90 else 0
def datP (A : Pl) (i : Nat) : BS := (A.files[i]?.map (·.1)).getD []
def firmP (A : Pl) (i : Nat) : Nat := (A.files[i]?.map (·.2)).getD 0
def usedP (A : Pl) : Nat := (A.now.map fun x => (datP A x.2).length).sum
def atP (A : Pl) (k : BS) : Nat := (lookN A.now k).getD 0
def chgP (A : Pl) (c : Chg) : Pl := { tickP A with now := applyC c A.now, pend := A.pend ++ [c] }
/-- a step, and what it answers -/
def doP (A : Pl) : Opp → Pl × Int
  | .create k => if begP A [k] ≠ 0 then (tickP A, begP A [k]) else if lookN A.now k ≠ none then (tickP A, 91) else ({ chgP A (.put k A.files.length) with files := A.files ++ [([], 0)] }, 0)
  | .append k d => if onP A [] k ≠ 0 then (tickP A, onP A [] k) else if 0 < d.length ∧ A.room < usedP A + d.length then (tickP A, 92) else ({ tickP A with files := A.files.modify (atP A k) fun x => (x.1 ++ d, x.2) }, 0)
  | .sync k => if onP A [] k ≠ 0 then (tickP A, onP A [] k) else ({ tickP A with files := A.files.modify (atP A k) fun x => (x.1, x.1.length) }, 0)
  | .names => if begP A [] ≠ 0 then (tickP A, begP A []) else ({ tickP A with safe := A.now, pend := [] }, 0)
  | .rename a b => if onP A [b] a ≠ 0 then (tickP A, onP A [b] a) else if a = b then (tickP A, 0) else (chgP A (.ren a b (atP A a)), 0)
  | .remove k => if onP A [] k ≠ 0 then (tickP A, onP A [] k) else (chgP A (.del k), 0)
def readEP (A : Pl) (k : BS) : Int := if downP A = true then 93 else if badN k = true then 95 else if lookN A.now k = none then 90 else 0
def readP (A : Pl) (k : BS) : BS := if readEP A k = 0 then datP A (atP A k) else []
def listP (A : Pl) : List BS := if downP A = true then [] else A.now.map (·.1)
def leftNP (A : Pl) (n : Int) : NM := (A.pend.take n.toNat).foldl (fun M c => applyC c M) A.safe
def moreP (keep : List Int) (i n : Nat) : Nat := match keep[i]? with | none => 0 | some z => (min z n).toNat
def leftDP (A : Pl) (keep : List Int) (i : Nat) : BS := (datP A i).take (firmP A i + moreP keep i ((datP A i).length - firmP A i))
def leftP (A : Pl) (n : Int) (keep : List Int) : List (BS × BS) := (leftNP A n).map fun x => (x.1, leftDP A keep x.2)

/-- a file's number -/
def noF : List FileC → Nat → Nat
  | [], _ => 0
  | f :: F, g => if f.blk = g then 0 else noF F g + 1
theorem noF_app (G : List FileC) (g : Nat) : ∀ F : List FileC, (∃ f ∈ F, f.blk = g) → noF (F ++ G) g = noF F g
  | [], h => by obtain ⟨f, h, _⟩ := h; cases h
  | f :: F, h => by
    rw [List.cons_append]
    unfold noF
    by_cases e : f.blk = g
    · rw [if_pos e, if_pos e]
    · rw [if_neg e, if_neg e, noF_app G g F]
      obtain ⟨z, hz, hb⟩ := h
      rcases List.mem_cons.1 hz with rfl | hz
      · exact absurd hb e
      · exact ⟨z, hz, hb⟩
theorem noF_new (f0 : FileC) : ∀ F : List FileC, (∀ f ∈ F, f.blk ≠ f0.blk) → noF (F ++ [f0]) f0.blk = F.length
  | [], _ => by unfold noF; rw [List.nil_append]; simp
  | f :: F, h => by
    rw [List.cons_append]
    unfold noF
    rw [if_neg (h f (List.mem_cons_self ..)), noF_new f0 F fun z hz => h z (List.mem_cons_of_mem _ hz), List.length_cons]
theorem noF_congr : ∀ F G : List FileC, F.map (·.blk) = G.map (·.blk) → noF F = noF G
  | [], [], _ => rfl
  | [], _ :: _, h => by cases h
  | _ :: _, [], h => by cases h
  | f :: F, f' :: G, h => by
    simp only [List.map_cons, List.cons.injEq] at h
    funext g
    unfold noF
    rw [h.1, noF_congr F G h.2]
theorem noF_get (g : Nat) : ∀ F : List FileC, (∃ f ∈ F, f.blk = g) → ∃ f, F[noF F g]? = some f ∧ f.blk = g ∧ F.find? (fun z => decide (z.blk = g)) = some f
  | [], h => by obtain ⟨f, h, _⟩ := h; cases h
  | f :: F, h => by
    unfold noF
    by_cases e : f.blk = g
    · rw [if_pos e]; exact ⟨f, rfl, e, by rw [List.find?_cons, decide_eq_true e]⟩
    · rw [if_neg e]
      obtain ⟨z, h1, h2, h3⟩ := noF_get g F (by
        obtain ⟨z, hz, hb⟩ := h
        rcases List.mem_cons.1 hz with rfl | hz
        · exact absurd hb e
        · exact ⟨z, hz, hb⟩)
      exact ⟨z, by rw [List.getElem?_cons_succ]; exact h1, h2, by rw [List.find?_cons, decide_eq_false e]; exact h3⟩
abbrev ApartF (F : List FileC) : Prop := F.Pairwise fun f g => f.blk ≠ g.blk ∧ ∀ r, f.val.ownBlock = some r → g.val.ownBlock ≠ some r
theorem noF_at : ∀ (F : List FileC) (i : Nat) (f : FileC), ApartF F → F[i]? = some f → noF F f.blk = i
  | [], i, f, _, h => by cases h
  | z :: F, 0, f, _, h => by
    obtain rfl : z = f := by simpa using h
    unfold noF
    rw [if_pos rfl]
  | z :: F, i + 1, f, hp, h => by
    rw [List.getElem?_cons_succ] at h
    have hp := List.pairwise_cons.1 hp
    unfold noF
    rw [if_neg (hp.1 f (List.mem_of_getElem? h)).1, noF_at F i f hp.2 h]

def mapN (φ : Nat → Nat) (M : NM) : NM := M.map fun x => (x.1, φ x.2)
def mapC (φ : Nat → Nat) : Chg → Chg
  | .put k f => .put k (φ f)
  | .ren a k f => .ren a k (φ f)
  | .del k => .del k
theorem lookN_map (φ : Nat → Nat) (k : BS) : ∀ M : NM, lookN (mapN φ M) k = (lookN M k).map φ
  | [] => rfl
  | (m, g) :: M => by
    have ih := lookN_map φ k M
    unfold mapN at ih ⊢
    rw [List.map_cons, lookN_cons, lookN_cons, ih]
    split <;> rfl
theorem delN_map (φ : Nat → Nat) (k : BS) (M : NM) : delN k (mapN φ M) = mapN φ (delN k M) := by
  unfold delN mapN
  rw [List.filter_map]
  rfl
theorem insN_map (φ : Nat → Nat) (k : BS) (f : Nat) : ∀ M : NM, insN k (φ f) (mapN φ M) = mapN φ (insN k f M)
  | [] => rfl
  | (m, g) :: M => by
    have ih := insN_map φ k f M
    unfold mapN at ih ⊢
    rw [List.map_cons]
    unfold insN
    split
    · rfl
    · split
      · rfl
      · rw [List.map_cons, ih]
theorem applyC_map (φ : Nat → Nat) (c : Chg) (M : NM) : applyC (mapC φ c) (mapN φ M) = mapN φ (applyC c M) := by
  cases c with
  | put k f => exact insN_map φ k f M
  | ren a k f => show insN k (φ f) (delN a (mapN φ M)) = mapN φ (insN k f (delN a M)); rw [delN_map, insN_map]
  | del k => exact delN_map φ k M
theorem mapN_congr {φ ψ : Nat → Nat} {M : NM} (h : ∀ x ∈ M, φ x.2 = ψ x.2) : mapN φ M = mapN ψ M := by
  unfold mapN
  exact List.map_congr_left fun x hx => by rw [h x hx]
theorem fold_map (φ : Nat → Nat) : ∀ (C : List Chg) (M : NM), (C.map (mapC φ)).foldl (fun M c => applyC c M) (mapN φ M) = mapN φ (C.foldl (fun M c => applyC c M) M)
  | [], _ => rfl
  | c :: C, M => by
    rw [List.map_cons, List.foldl_cons, List.foldl_cons, applyC_map, fold_map φ C]

def absD (S : DiskC) : Pl where
  now := mapN (noF S.files) S.now
  safe := mapN (noF S.files) S.safe
  pend := S.pend.map (mapC (noF S.files))
  files := S.files.map fun f => (f.data, f.firm)
  room := S.room
  fails := S.fails
  power := S.power
  steps := S.steps
theorem abs_down (S : DiskC) : downP (absD S) = downS S := rfl
theorem abs_beg (S : DiskC) (L : List BS) : begP (absD S) L = beginE S L := rfl
theorem abs_tick (S : DiskC) : tickP (absD S) = absD (beginS S) := by
  unfold tickP beginS
  rw [abs_down]
  split <;> rfl
theorem abs_look (S : DiskC) (k : BS) : lookN (absD S).now k = (lookN S.now k).map (noF S.files) := lookN_map _ _ _
theorem abs_on (S : DiskC) (L : List BS) (k : BS) : onP (absD S) L k = onE S L k := by
  unfold onP onE
  rw [abs_beg, abs_look]
  cases lookN S.now k <;> rfl
theorem beginS_rest (S : DiskC) : (beginS S).safe = S.safe ∧ (beginS S).pend = S.pend ∧ (beginS S).files = S.files ∧ (beginS S).room = S.room ∧ (beginS S).pvals = S.pvals ∧ (beginS S).fails = S.fails ∧ (beginS S).power = S.power := by
  unfold beginS
  split <;> exact ⟨rfl, rfl, rfl, rfl, rfl, rfl, rfl⟩
theorem datP_of {S : DiskC} {i : Nat} {f : FileC} (h : S.files[i]? = some f) : datP (absD S) i = f.data ∧ firmP (absD S) i = f.firm := by
  unfold datP firmP absD
  simp only [List.getElem?_map, h]
  exact ⟨rfl, rfl⟩
theorem abs_dat {S : DiskC} {g : Nat} (h : HasFile S g) : datP (absD S) (noF S.files g) = datF S g := by
  obtain ⟨f, h1, h2, h3⟩ := noF_get g S.files h
  rw [(datP_of h1).1]
  unfold datF
  rw [h3]
theorem abs_used {S : DiskC} (h : ∀ x ∈ S.now, HasFile S x.2) : usedP (absD S) = usedS S := by
  unfold usedP usedS
  show ((mapN (noF S.files) S.now).map _).sum = _
  unfold mapN
  rw [List.map_map]
  congr 1
  exact List.map_congr_left fun x hx => by
    show (datP (absD S) (noF S.files x.2)).length = _
    rw [abs_dat (h x hx)]
/-- a disk as plain data, in the heap -/
def DiskP (w : World) (P : Nat → Prop) (dd : Nat) (A : Pl) : Prop := ∃ S, DiskAt w P dd S ∧ absD S = A
end Go.Proofs.YtnhfnfdmpcpcoaaDoor
