/-
  Chapter 9, texts merged: PlNew, StepApp, FilesT, NewAt, LeftD, NewD.
-/
import Derived.Test.YtnhfnfdmpcpcoaaDoorM9c
import Derived.Test.YtnhfnfdmpcpcoaaDoorM9a
import Derived.Test.YtnhfnfdmpcpcoaaDoorM9b
import Derived.Test.YtnhfnfdmpcpcoaaDoorShelf
import Derived.Deep.RegionHeld3
import Derived.Deep.LoopGhost
import Derived.Laws.Cover1
import Derived.Sort.Walk0

/-
  The plain disk's beginning, and the laws without the document's answer. No program is in sight here.
-/
namespace Go.Proofs.YtnhfnfdmpcpcoaaDoor

def numF : Nat → List (BS × BS) → NM
  | _, [] => []
  | i, f :: F => (f.1, i) :: numF (i + 1) F
theorem numF_get : ∀ (F : List (BS × BS)) (j i : Nat), (numF j F)[i]? = (F[i]?).map fun f => (f.1, j + i)
  | [], _, _ => by simp [numF]
  | f :: F, j, 0 => by simp [numF]
  | f :: F, j, i + 1 => by
    unfold numF
    rw [List.getElem?_cons_succ, List.getElem?_cons_succ, numF_get F (j + 1) i]
    have e : j + 1 + i = j + (i + 1) := by omega
    rw [e]
theorem numF_length : ∀ (F : List (BS × BS)) (j : Nat), (numF j F).length = F.length
  | [], _ => rfl
  | f :: F, j => by unfold numF; rw [List.length_cons, List.length_cons, numF_length F]
theorem numF_snoc (f : BS × BS) : ∀ (F : List (BS × BS)) (j : Nat), numF j (F ++ [f]) = numF j F ++ [(f.1, j + F.length)]
  | [], j => rfl
  | g :: F, j => by
    rw [List.cons_append]
    unfold numF
    rw [numF_snoc f F (j + 1), List.cons_append, List.length_cons]
    have e : j + 1 + F.length = j + (F.length + 1) := by omega
    rw [e]
theorem numF_names : ∀ (F : List (BS × BS)) (j : Nat), (numF j F).map (·.1) = F.map (·.1)
  | [], _ => rfl
  | f :: F, j => by unfold numF; rw [List.map_cons, List.map_cons, numF_names F]
theorem numF_nums : ∀ (F : List (BS × BS)) (j : Nat), (numF j F).map (·.2) = List.range' j F.length
  | [], _ => rfl
  | f :: F, j => by unfold numF; rw [List.map_cons, List.length_cons, List.range'_succ, numF_nums F]
def okF (F : List (BS × BS)) : Prop := (∀ f ∈ F, badN f.1 = false) ∧ F.Pairwise fun f g => f.1 < g.1
open Classical in
noncomputable def newE (F : List (BS × BS)) (room : Int) : Int := if room < 0 ∨ 1073741824 < room then 131 else if okF F then 0 else 95
def newP (F : List (BS × BS)) (room : Int) (fails : List Int) (power : Int) : Pl where
  now := numF 0 F
  safe := numF 0 F
  pend := []
  files := F.map fun f => (f.2, f.2.length)
  room := room.toNat
  fails := fails
  power := power
  steps := 0
theorem newE_zero {F : List (BS × BS)} {room : Int} (h : newE F room = 0) : okF F ∧ 0 ≤ room ∧ room ≤ 1073741824 := by
  unfold newE at h
  split at h
  · cases h
  · rename_i h1
    split at h
    · rename_i h2; exact ⟨h2, by omega, by omega⟩
    · cases h
theorem numF_rises {F : List (BS × BS)} (h : okF F) (j : Nat) : Rises (numF j F) := by
  have h2 := h.2
  unfold Rises
  have e : (numF j F).Pairwise (fun p q => p.1 < q.1) ↔ ((numF j F).map (·.1)).Pairwise (· < ·) := List.pairwise_map.symm
  rw [e, numF_names]
  exact List.pairwise_map.2 h2
theorem numF_mem {F : List (BS × BS)} {x : BS × Nat} (h : x ∈ numF 0 F) : ∃ f, F[x.2]? = some f ∧ x.1 = f.1 := by
  obtain ⟨i, hi, e⟩ := List.getElem_of_mem h
  have := numF_get F 0 i
  rw [List.getElem?_eq_getElem hi, e] at this
  cases hf : F[i]? with
  | none => rw [hf] at this; cases this
  | some f =>
    rw [hf] at this
    simp only [Option.map_some, Option.some.injEq] at this
    subst this
    exact ⟨f, by simpa using hf, rfl⟩
theorem inv_new {F : List (BS × BS)} (h : okF F) (room : Int) (fails : List Int) (power : Int) : Inv (newP F room fails power) := by
  have hg : ∀ x ∈ numF 0 F, badN x.1 = false := fun x hx => by
    obtain ⟨f, hf, e⟩ := numF_mem hx
    rw [e]; exact h.1 f (List.mem_of_getElem? hf)
  refine ⟨numF_rises h 0, numF_rises h 0, rfl, hg, hg, (fun c hc => by cases hc), fun x hx => ?_, ?_, fun x hx => ?_⟩
  · obtain ⟨f, hf, _⟩ := numF_mem hx
    have := (List.getElem?_eq_some_iff.1 hf).1
    show x.2 < (F.map _).length
    simpa using this
  · show ((numF 0 F).map (·.2)).Nodup
    rw [numF_nums]
    exact List.nodup_range'
  · obtain ⟨f, _, e⟩ := List.mem_map.1 hx
    rw [← e]; exact Nat.le_refl _
theorem used_numF (G : List (BS × Nat)) : ∀ (F : List (BS × BS)) (j : Nat), (∀ i f, F[i]? = some f → lenF G (j + i) = f.2.length) → ((numF j F).map fun x => lenF G x.2).sum = (F.map fun f => f.2.length).sum
  | [], _, _ => rfl
  | f :: F, j, h => by
    unfold numF
    have h0 := h 0 f rfl
    simp only [List.map_cons, List.sum_cons]
    rw [used_numF G F (j + 1) fun i g hg => by
      have := h (i + 1) g (by rw [List.getElem?_cons_succ]; exact hg)
      rw [← this]; congr 1; omega]
    rw [Nat.add_zero] at h0
    rw [h0]
theorem used_new (F : List (BS × BS)) (room : Int) (fails : List Int) (power : Int) : usedP (newP F room fails power) = (F.map fun f => f.2.length).sum := by
  rw [usedP_eq]
  exact used_numF _ F 0 fun i f hf => by
    unfold lenF newP
    rw [List.getElem?_map, Nat.zero_add, hf]; rfl
theorem fit_new {F : List (BS × BS)} {room : Int} {fails : List Int} (power : Int) (hr : room ≤ 1073741824) (hl : F.length ≤ 3518437208780) (hs : (F.map fun f => f.2.length).sum ≤ 140737488351232) (hf : fails.length ≤ 17592186043904) : FitN (newP F room fails power) 0 := by
  refine ⟨Nat.le_refl _, Nat.le_refl _, ?_, ?_, ?_, hf, .inl (by rw [used_new]; exact hs), ?_⟩
  · show (numF 0 F).length ≤ _; rw [numF_length]; exact hl
  · show (numF 0 F).length ≤ _; rw [numF_length]; exact hl
  · show (F.map _).length ≤ _; rw [List.length_map]; exact hl
  · show room.toNat ≤ _; omega
/-- what a disk of files leaves at once: the files -/
theorem left_new (F : List (BS × BS)) (room : Int) (fails : List Int) (power n : Int) (keep : List Int) : leftP (newP F room fails power) n keep = F := by
  unfold leftP
  have e : leftNP (newP F room fails power) n = numF 0 F := by
    unfold leftNP newP
    simp
  rw [e]
  apply List.ext_getElem?
  intro i
  rw [List.getElem?_map, numF_get]
  cases hf : F[i]? with
  | none => rfl
  | some f =>
    simp only [Option.map_some]
    unfold leftDP datP firmP newP
    simp only [List.getElem?_map, Nat.zero_add, hf, Option.map_some, Option.getD_some]
    rw [List.take_of_length_le (by omega)]
theorem leftP_names (A : Pl) (n : Int) (keep : List Int) : (leftP A n keep).map (·.1) = (leftNP A n).map (·.1) := by
  unfold leftP
  rw [List.map_map]
  rfl
theorem left_ok {A : Pl} (h : Inv A) (n : Int) (keep : List Int) : okF (leftP A n keep) := by
  refine ⟨fun f hf => ?_, ?_⟩
  · obtain ⟨x, hx, e⟩ := List.mem_map.1 hf
    rw [← e]
    exact leftN_good h n x hx
  · unfold leftP
    exact List.pairwise_map.2 (leftN_rises h n)

/-- what a Sync and a SyncNames have made safe -/
structure SafeI (k : BS) (i : Nat) (held : BS) (B : Pl) : Prop where
  inv : Inv B
  look : lookN B.now k = some i
  safe : lookN B.safe k = some i
  pend : ∀ c ∈ B.pend, ∃ j f, c = .put j f ∧ j ≠ k
  firm : firmP B i = held.length
  held : held <+: datP B i
theorem dat_congr {A B : Pl} (h : A.files = B.files) (i : Nat) : datP A i = datP B i ∧ firmP A i = firmP B i := by
  unfold datP firmP
  rw [h]
  exact ⟨rfl, rfl⟩
theorem SafeI.tick {k : BS} {i : Nat} {held : BS} {B : Pl} (h : SafeI k i held B) : SafeI k i held (tickP B) := by
  have ht := tick_rest B
  have hd := dat_congr (A := tickP B) (B := B) ht.2.2.1 i
  exact ⟨inv_tick h.inv, by rw [ht.1]; exact h.look, by rw [ht.2.2.2.1]; exact h.safe, by rw [ht.2.1]; exact h.pend, by rw [hd.2]; exact h.firm, by rw [hd.1]; exact h.held⟩
theorem dat_modify (B : Pl) (F : List (BS × Nat)) (d : BS) (j i : Nat) (hF : B.files = F.modify j fun x => (x.1 ++ d, x.2)) (A : Pl) (hA : A.files = F) : (datP A i <+: datP B i) ∧ firmP B i = firmP A i := by
  unfold datP firmP
  rw [hF, hA, List.getElem?_modify]
  cases F[i]? with
  | none => exact ⟨List.prefix_refl _, rfl⟩
  | some x =>
    simp only [Option.map_some, Option.getD_some]
    split
    · exact ⟨List.prefix_append _ _, rfl⟩
    · exact ⟨List.prefix_refl _, rfl⟩
theorem SafeI.append {k : BS} {i : Nat} {held : BS} {B : Pl} (h : SafeI k i held B) (j d : BS) : SafeI k i held (doP B (.append j d)).1 := by
  have hi := inv_do h.inv (.append j d)
  have ht := h.tick
  have hr := tick_rest B
  rw [doP_append] at hi ⊢
  split at hi
  · rename_i h1; rw [if_pos h1]; exact ht
  · rename_i h1
    rw [if_neg h1]
    split at hi
    · rename_i h2; rw [if_pos h2]; exact ht
    · rename_i h2
      rw [if_neg h2]
      have hd := dat_modify { tickP B with files := B.files.modify (atP B j) fun x => (x.1 ++ d, x.2) } B.files d (atP B j) i rfl (tickP B) hr.2.2.1
      exact ⟨hi, ht.look, ht.safe, ht.pend, by rw [hd.2]; exact ht.firm, List.IsPrefix.trans ht.held hd.1⟩
theorem SafeI.create {k : BS} {i : Nat} {held : BS} {B : Pl} (h : SafeI k i held B) (j : BS) : SafeI k i held (doP B (.create j)).1 := by
  have hi := inv_do h.inv (.create j)
  have ht := h.tick
  have hr := tick_rest B
  rw [doP_create] at hi ⊢
  split at hi
  · rename_i h1; rw [if_pos h1]; exact ht
  · rename_i h1
    rw [if_neg h1]
    split at hi
    · rename_i h2; rw [if_pos h2]; exact ht
    · rename_i h2
      rw [if_neg h2]
      have h2 : lookN B.now j = none := by simpa using h2
      have hne : j ≠ k := fun e => by
        have := h.look
        rw [← e, h2] at this; cases this
      have hlt := h.inv.fnow _ (lookN_mem _ _ _ h.look)
      simp only at hlt
      refine ⟨hi, ?_, ht.safe, ?_, ?_, ?_⟩
      · show lookN (insN j B.files.length B.now) k = _
        rw [lookN_ins_other j k _ (fun e => hne e.symm)]; exact h.look
      · intro c hc
        rcases List.mem_append.1 hc with e | e
        · exact h.pend c e
        · exact ⟨j, _, List.mem_singleton.1 e, hne⟩
      · have := h.firm
        unfold firmP at this ⊢
        simp only
        rw [List.getElem?_append_left hlt]; exact this
      · have := h.held
        unfold datP at this ⊢
        simp only
        rw [List.getElem?_append_left hlt]; exact this
theorem fold_puts (k : BS) : ∀ (C : List Chg) (M : NM), (∀ c ∈ C, ∃ j f, c = .put j f ∧ j ≠ k) → lookN (C.foldl (fun M c => applyC c M) M) k = lookN M k
  | [], _, _ => rfl
  | c :: C, M, h => by
    rw [List.foldl_cons, fold_puts k C _ fun d hd => h d (List.mem_cons_of_mem _ hd)]
    obtain ⟨j, f, rfl, hne⟩ := h c (List.mem_cons_self ..)
    exact lookN_ins_other j k f (fun e => hne e.symm) M
theorem SafeI.left {k : BS} {i : Nat} {held : BS} {B : Pl} (h : SafeI k i held B) (n : Int) (keep : List Int) : (∃ x ∈ leftP B n keep, x.1 = k) ∧ ∀ x ∈ leftP B n keep, x.1 = k → held <+: x.2 := by
  have hl : lookN (leftNP B n) k = some i := by
    unfold leftNP
    rw [fold_puts k _ _ fun c hc => h.pend c (List.mem_of_mem_take hc)]
    exact h.safe
  refine ⟨⟨_, List.mem_map.2 ⟨(k, i), lookN_mem _ _ _ hl, rfl⟩, rfl⟩, fun x hx e => ?_⟩
  obtain ⟨y, hy, e2⟩ := List.mem_map.1 hx
  have e1 : y.1 = k := by rw [← e, ← e2]
  have := lookN_of_mem (leftN_rises h.inv n) (k := y.1) (f := y.2) hy
  rw [e1, hl] at this
  injection this with this
  rw [← e2]
  show held <+: leftDP B keep y.2
  rw [← this]
  unfold leftDP
  rw [h.firm]
  obtain ⟨r, hr⟩ := h.held
  rw [← hr, List.take_length_add_append]
  exact List.prefix_append _ _
/-- behind a Sync and a SyncNames -/
theorem safe_start {A : Pl} (h : Inv A) (hp : A.power = -1) (k : BS) (h1 : (doP A (.sync k)).2 = 0) (h2 : (doP (doP A (.sync k)).1 .names).2 = 0) :
    ∃ i, SafeI k i (readP (doP (doP A (.sync k)).1 .names).1 k) (doP (doP A (.sync k)).1 .names).1 ∧ readEP (doP (doP A (.sync k)).1 .names).1 k = 0 := by
  obtain ⟨B, hB⟩ : ∃ B, B = (doP A (.sync k)).1 := ⟨_, rfl⟩
  have hi := inv_do h (.sync k)
  have hi2 := inv_do hi .names
  have hpw : (doP B .names).1.power = -1 := by rw [(do_rest B .names).2.2, hB, (do_rest A (.sync k)).2.2, hp]
  rw [← hB] at h2 hi hi2 ⊢
  have ht := tick_rest A
  rw [doP_sync] at h1 hB
  split at h1
  · rename_i h3; exact absurd h1 h3
  · rename_i h3
    rw [if_neg h3] at hB
    obtain ⟨g1, g2, g3⟩ := onP_zero (by simpa using h3)
    have hgood : badN k = false := begP_good g1 k (by simp)
    have hD : (doP B .names).1 = { tickP B with safe := B.now, pend := [] } := by
      rw [doP_names] at h2 ⊢
      split at h2
      · rename_i h4; exact absurd h2 h4
      · rename_i h4; rw [if_neg h4]
    have hl : lookN B.now k = some (atP A k) := by rw [hB]; show lookN (tickP A).now k = _; rw [ht.1]; exact g2
    have hlt := h.fnow _ g3
    simp only at hlt
    have hBt := tick_rest B
    obtain ⟨D, hD0⟩ : ∃ D, D = (doP B .names).1 := ⟨_, rfl⟩
    rw [← hD0] at hD hpw hi2 ⊢
    have dnow : D.now = B.now := by rw [hD]; exact hBt.1
    have dfiles : D.files = B.files := by rw [hD]; exact hBt.2.2.1
    have dl : lookN D.now k = some (atP A k) := by rw [dnow]; exact hl
    have dd : downP D = false := by unfold downP; rw [hpw]; simp
    have he : readEP D k = 0 := by
      unfold readEP
      rw [dd, hgood, dl]; simp
    have hr : readP D k = datP D (atP A k) := by
      unfold readP
      rw [if_pos he]
      unfold atP
      rw [dl]; rfl
    refine ⟨atP A k, ⟨hi2, dl, by rw [hD]; exact hl, by rw [hD]; exact (fun c hc => by cases hc), ?_, by rw [hr]; exact List.prefix_refl _⟩, he⟩
    rw [hr, (dat_congr dfiles _).1, (dat_congr dfiles _).2]
    unfold firmP datP
    have : B.files = A.files.modify (atP A k) fun x => (x.1, x.1.length) := by rw [hB]
    rw [this, List.getElem?_modify, List.getElem?_eq_getElem hlt]
    simp

/-- a life of Appends and Syncs alone -/
structure BegI (F : List (BS × BS)) (B : Pl) : Prop where
  inv : Inv B
  now : B.now = numF 0 F
  safe : B.safe = numF 0 F
  pend : B.pend = []
  len : B.files.length = F.length
  firm : ∀ (i : Nat) (x : BS × Nat) (f : BS × BS), B.files[i]? = some x → F[i]? = some f → f.2.length ≤ x.2
  room : ∀ x ∈ B.files, x.1.length = x.2 ∨ x.1.length ≤ B.room
  rm : B.room ≤ 1073741824
theorem beg_new {F : List (BS × BS)} (h : okF F) {room : Int} (hr : room ≤ 1073741824) (fails : List Int) (power : Int) : BegI F (newP F room fails power) := by
  refine ⟨inv_new h room fails power, rfl, rfl, rfl, by simp [newP], fun i x f hx hf => ?_, fun x hx => ?_, by show room.toNat ≤ _; omega⟩
  · unfold newP at hx
    simp only [List.getElem?_map, hf, Option.map_some, Option.some.injEq] at hx
    rw [← hx]; exact Nat.le_refl _
  · obtain ⟨f, _, e⟩ := List.mem_map.1 hx
    rw [← e]; exact .inl rfl
theorem BegI.tick {F : List (BS × BS)} {B : Pl} (h : BegI F B) : BegI F (tickP B) := by
  have ht := tick_rest B
  exact ⟨inv_tick h.inv, by rw [ht.1]; exact h.now, by rw [ht.2.2.2.1]; exact h.safe, by rw [ht.2.1]; exact h.pend, by rw [ht.2.2.1]; exact h.len, by rw [ht.2.2.1]; exact h.firm, by rw [ht.2.2.1, ht.2.2.2.2.1]; exact h.room, by rw [ht.2.2.2.2.1]; exact h.rm⟩
theorem BegI.append {F : List (BS × BS)} {B : Pl} (h : BegI F B) (k d : BS) : BegI F (doP B (.append k d)).1 := by
  have hi := inv_do h.inv (.append k d)
  have ht := h.tick
  have hr := tick_rest B
  rw [doP_append] at hi ⊢
  split at hi
  · rename_i h1; rw [if_pos h1]; exact ht
  · rename_i h1
    rw [if_neg h1]
    split at hi
    · rename_i h2; rw [if_pos h2]; exact ht
    · rename_i h2
      rw [if_neg h2]
      obtain ⟨g1, g2, g3⟩ := onP_zero (by simpa using h1)
      have hlt := h.inv.fnow _ g3
      simp only at hlt
      have hu := lenF_used g3
      refine ⟨hi, ht.now, ht.safe, ht.pend, by show (B.files.modify _ _).length = _; rw [List.length_modify]; exact h.len, fun i x f hx hf => ?_, fun x hx => ?_, ht.rm⟩
      · have hx : (B.files.modify (atP B k) fun x => (x.1 ++ d, x.2))[i]? = some x := hx
        rw [List.getElem?_modify] at hx
        cases hb : B.files[i]? with
        | none => rw [hb] at hx; cases hx
        | some y =>
          rw [hb] at hx
          have := h.firm i y f hb hf
          simp only [Option.map_eq_map, Option.map_some, Option.some.injEq] at hx
          split at hx <;> (rw [← hx]; exact this)
      · have hx : x ∈ B.files.modify (atP B k) fun x => (x.1 ++ d, x.2) := hx
        show _ ∨ x.1.length ≤ (tickP B).room
        rw [hr.2.2.2.2.1]
        obtain ⟨i, hi2, e⟩ := List.getElem_of_mem hx
        rw [List.length_modify] at hi2
        rw [List.getElem_modify] at e
        split at e
        · rename_i e2
          subst e2
          have : lenF B.files (atP B k) = B.files[atP B k].1.length := by unfold lenF; rw [List.getElem?_eq_getElem hi2]; rfl
          rw [← e]
          simp only [List.length_append]
          rcases Nat.eq_zero_or_pos d.length with h0 | h0
          · rcases h.room _ (List.getElem_mem hi2) with h3 | h3
            · left; omega
            · right; omega
          · right
            have : ¬ B.room < usedP B + d.length := fun e => h2 ⟨h0, e⟩
            simp only at hu
            omega
        · rw [← e]; exact h.room _ (List.getElem_mem hi2)
theorem BegI.sync {F : List (BS × BS)} {B : Pl} (h : BegI F B) (k : BS) : BegI F (doP B (.sync k)).1 := by
  have hi := inv_do h.inv (.sync k)
  have ht := h.tick
  have hr := tick_rest B
  rw [doP_sync] at hi ⊢
  split at hi
  · rename_i h1; rw [if_pos h1]; exact ht
  · rename_i h1
    rw [if_neg h1]
    refine ⟨hi, ht.now, ht.safe, ht.pend, by show (B.files.modify _ _).length = _; rw [List.length_modify]; exact h.len, fun i x f hx hf => ?_, fun x hx => ?_, ht.rm⟩
    · have hx : (B.files.modify (atP B k) fun x => (x.1, x.1.length))[i]? = some x := hx
      rw [List.getElem?_modify] at hx
      cases hb : B.files[i]? with
      | none => rw [hb] at hx; cases hx
      | some y =>
        rw [hb] at hx
        have := h.firm i y f hb hf
        have h4 := h.inv.firm y (List.mem_of_getElem? hb)
        simp only [Option.map_eq_map, Option.map_some, Option.some.injEq] at hx
        split at hx
        · rw [← hx]; simp only; omega
        · rw [← hx]; exact this
    · have hx : x ∈ B.files.modify (atP B k) fun x => (x.1, x.1.length) := hx
      show _ ∨ x.1.length ≤ (tickP B).room
      rw [hr.2.2.2.2.1]
      obtain ⟨i, hi2, e⟩ := List.getElem_of_mem hx
      rw [List.length_modify] at hi2
      rw [List.getElem_modify] at e
      split at e
      · rw [← e]; exact .inl rfl
      · rw [← e]; exact h.room _ (List.getElem_mem hi2)
theorem BegI.leftN {F : List (BS × BS)} {B : Pl} (h : BegI F B) (n : Int) : leftNP B n = numF 0 F := by
  unfold leftNP
  rw [h.pend, h.safe]
  simp
theorem BegI.left {F : List (BS × BS)} {B : Pl} (h : BegI F B) (n : Int) (keep : List Int) : (leftP B n keep).length = F.length ∧ (leftP B n keep).map (·.1) = F.map (·.1) := by
  refine ⟨?_, ?_⟩
  · unfold leftP; rw [List.length_map, h.leftN, numF_length]
  · rw [leftP_names, h.leftN, numF_names]
theorem BegI.read {F : List (BS × BS)} {B : Pl} (h : BegI F B) (hd : downP B = false) (n : Int) (keep : List Int) {i : Nat} {x : BS × BS} (hx : (leftP B n keep)[i]? = some x) :
    ∃ f, F[i]? = some f ∧ x.1 = f.1 ∧ readEP B x.1 = 0 ∧ readP B x.1 = datP B i ∧ x.2 = leftDP B keep i ∧ f.2.length ≤ firmP B i ∧ firmP B i ≤ (datP B i).length ∧ ((datP B i).length = firmP B i ∨ (datP B i).length ≤ 1073741824) := by
  unfold leftP at hx
  rw [List.getElem?_map, h.leftN, numF_get] at hx
  cases hf : F[i]? with
  | none => rw [hf] at hx; cases hx
  | some f =>
    rw [hf] at hx
    simp only [Option.map_some, Option.some.injEq, Nat.zero_add] at hx
    subst hx
    have hilt : i < B.files.length := by rw [h.len]; exact (List.getElem?_eq_some_iff.1 hf).1
    have hB : B.files[i]? = some B.files[i] := List.getElem?_eq_getElem hilt
    have hmem : (f.1, i) ∈ B.now := by
      rw [h.now]
      have := numF_get F 0 i
      rw [hf] at this
      simp only [Option.map_some, Nat.zero_add] at this
      exact List.mem_of_getElem? this
    have hl := lookN_of_mem h.inv.rnow hmem
    have hg := h.inv.gnow _ hmem
    have he : readEP B f.1 = 0 := by
      unfold readEP
      rw [hd, hg, hl]; simp
    refine ⟨f, rfl, rfl, he, ?_, rfl, ?_, ?_, ?_⟩
    · unfold readP
      rw [if_pos he]
      unfold atP
      rw [hl]; rfl
    · have := h.firm i _ f hB hf
      unfold firmP
      rw [hB]; exact this
    · have := h.inv.firm _ (List.getElem_mem hilt)
      unfold firmP datP
      rw [hB]; exact this
    · have := h.room _ (List.getElem_mem hilt)
      have hrm := h.rm
      unfold firmP datP
      rw [hB]
      simp only [Option.map_some, Option.getD_some]
      omega
theorem leftD_prefix (B : Pl) (keep : List Int) (i : Nat) : leftDP B keep i <+: datP B i := List.take_prefix _ _
theorem leftD_length {B : Pl} (keep : List Int) (i : Nat) (h : firmP B i ≤ (datP B i).length) : firmP B i ≤ (leftDP B keep i).length := by
  unfold leftDP
  rw [List.length_take]
  omega
theorem leftD_whole {B : Pl} {keep : List Int} {i : Nat} {z : Int} (hk : keep[i]? = some z) (hz : 1073741824 ≤ z) (h : firmP B i ≤ (datP B i).length) (hr : (datP B i).length = firmP B i ∨ (datP B i).length ≤ 1073741824) : leftDP B keep i = datP B i := by
  unfold leftDP moreP
  rw [hk]
  exact List.take_of_length_le (by simp only; omega)
/-- what is left makes a disk of just these files -/
theorem again_new {A : Pl} (h : Inv A) (n : Int) (keep : List Int) : okF (leftP A n keep) := left_ok h n keep
theorem list_new {F : List (BS × BS)} (room : Int) (fails : List Int) : listP (newP F room fails (-1)) = F.map (·.1) := by
  unfold listP
  have : downP (newP F room fails (-1)) = false := by unfold downP newP; simp
  rw [this]
  exact numF_names F 0
end Go.Proofs.YtnhfnfdmpcpcoaaDoor

/-
  append, and bytes of a text, as steps of a region that draws.
-/
namespace Go.Proofs.YtnhfnfdmpcpcoaaDoor
open Go.RowKit

/-- append onto a row of the call's own, as a step of a region that draws -/
theorem step_append_fit {P : Program} {w : World} {ops : Array Oper} {o : Oper} {a : Act} {K : Act → World → Prop} {Q : Exit → Act → World → Prop} {E : Prop} (hgd : o.guard = none) (s x : Operand) (t tx : TypeId)
    (ho : o.op = .call { callee := .builtin .append, args := #[s, x], argTypes := #[t, tx] })
    (base : Nat) (e : TypeId) (z : Value) (size bytes : Nat) (ht : P.underlying t = some (.slice e)) (hi : (P.info? e).map (fun i => (i.zero, i.size, i.bytes)) = some (some z, size, bytes))
    (hzs : z.cells.size = size)
    (v : Value) (n : Nat) (xs : List Value) (hv : a.eval s = v) (hown : w.ownsRow base e size v n xs)
    (y : Value) (m : Nat) (news : List Value) (hx : a.eval x = y) (hs : Src P size tx y m news w)
    (h63 : n + m ≤ maxLen) (hbytes : (n + m + (n + m) / 4 + 512) * bytes ≤ 281474976710656) (hbase : base ≤ w.heap.size)
    (h : ∀ v' w', w'.ownsRow base e size v' (n + m) (xs ++ news) → w.grownBy w' v.ownBlock → K (a.put o.dst v') w') :
    if Region.wanted o (yielded ops a.tmps) = true then Oper.wp P o a w K Q else E := by
  have hw : Region.wanted o (yielded ops a.tmps) = true := by simp [Region.wanted, hgd]
  rw [if_pos hw]
  obtain ⟨i, hi, hz, hz1, hz2⟩ := info_parts hi
  obtain ⟨v', w', hr, h2, h3, h4⟩ := run_append_fit (P := P) w base t tx o.type e i z size bytes ht hi hz hz1 hz2 hzs v n xs hown y m news hs h63 (fun old hold => Nat.le_trans (Nat.mul_le_mul_right _ (nextslicecap_le _ _ hold)) hbytes) hbase
  unfold Oper.wp execOp
  simp only [ho, resolve, invoke, builtin, Sem.run_bind, Sem.run_pure, Result.andThen_ok, List.map_toArray, List.map_cons, List.map_nil, hv, hx, hr]
  exact h v' w' h2 h3
theorem step_append8 {w : World} {ops : Array Oper} {o : Oper} {a : Act} {K : Act → World → Prop} {Q : Exit → Act → World → Prop} {E : Prop} (hgd : o.guard = none) (s x : Operand)
    (ho : o.op = .call { callee := .builtin .append, args := #[s, x], argTypes := #[26, 26] })
    (base : Nat) (v : Value) (l : List UInt8) (hv : a.eval s = v) (hown : Own8 w base v l)
    (p : Option Addr) (m c : Nat) (l2 : List UInt8) (hm : l2.length = m) (hx : a.eval x = .slice p m c) (hin : In8 w p l2)
    (hr : l.length + m ≤ 200000000000000) (hbase : base ≤ w.heap.size)
    (h : ∀ v' w', Own8 w' base v' (l ++ l2) → w.grownBy w' v.ownBlock → K (a.put o.dst v') w') :
    if Region.wanted o (yielded ops a.tmps) = true then Oper.wp Tryd.prog o a w K Q else E := by
  subst hm
  refine step_append_fit hgd s x _ _ ho base 5 (.int .u8 0) 1 1 Tryd.underlying26 info8 rfl v l.length (by8 l) hv hown _ l2.length (by8 l2) hx (Src.of8 hin) (by unfold maxLen; omega) (by omega) hbase ?_
  intro v' w' ho' hg
  exact h v' w' (by unfold Own8; rw [List.length_append, by8_append]; exact ho') hg

/-- the world behind a text's bytes -/
def bytesW (w : World) (t : ByteArray) : World := w.drew.alloc (.cells (bytesRow t (grownCap w t.size 0 5)) 5 ((bytesRow t (grownCap w t.size 0 5)).size, (bytesRow t (grownCap w t.size 0 5)).size + 1))
theorem bytesW_run (w : World) (t : ByteArray) : (convert 9 26 (.string t)).run Tryd.prog w = .ok (.slice (some ⟨w.heap.size, 0, none⟩) t.size (grownCap w t.size 0 5)) (bytesW w t) :=
  run_bytes_of_string (P := Tryd.prog) w 9 26 5 t Tryd.underlying9 Tryd.underlying26 Tryd.underlying5
theorem bytesW_below (w : World) (t : ByteArray) : Below w.heap.size w (bytesW w t) :=
  (Below.refl _ w).drew.alloc (Nat.le_refl _) _
theorem bytesW_in8 (w : World) (t : ByteArray) : In8 (bytesW w t) (some ⟨w.heap.size, 0, none⟩) t.data.toList := by
  intro _
  have hl : t.data.toList.length = t.size := by rw [Array.length_toList]; rfl
  refine ⟨w.heap.size, 0, rfl, fun i hi => ?_⟩
  have hb : (bytesW w t).heap[w.heap.size]? = some (.cells (bytesRow t (grownCap w t.size 0 5)) 5 ((bytesRow t (grownCap w t.size 0 5)).size, (bytesRow t (grownCap w t.size 0 5)).size + 1)) := heap_alloc_new w.drew _
  have hi' : i < (t.data.map (fun b => Value.int .u8 (b.toNat : Int))).size := by simpa [hl] using hi
  rw [cell_of_row _ _ _ _ _ _ hb, Nat.zero_add, bytesRow, Array.getElem?_append_left hi', Array.getElem?_eq_getElem hi', ← bt_bytes t i (by omega)]
end Go.Proofs.YtnhfnfdmpcpcoaaDoor

/-
  Rows of files: a name and bytes each.
-/
namespace Go.Proofs.YtnhfnfdmpcpcoaaDoor
open Go.RowKit

abbrev FT := List UInt8 × List UInt8
/-- the cells of names and bytes -/
def fc : List (List UInt8 × Value) → List Value
  | [] => []
  | x :: E => [.string ⟨x.1.toArray⟩, x.2] ++ fc E
theorem fc_length (E : List (List UInt8 × Value)) : (fc E).length = E.length * 2 := by
  induction E with
  | nil => rfl
  | cons x L ih => simp only [fc, List.length_append, List.length_cons, List.length_nil, ih]; omega
theorem fc_append (E F : List (List UInt8 × Value)) : fc (E ++ F) = fc E ++ fc F := by
  induction E with
  | nil => rfl
  | cons x L ih => simp only [List.cons_append, fc, ih, List.append_assoc]
theorem fc_one {E : List (List UInt8 × Value)} (h : ∀ e ∈ E, e.2.oneCell' = true) : ∀ u ∈ fc E, u.oneCell' = true := by
  induction E with
  | nil => intro u hu; cases hu
  | cons x L ih =>
    intro u hu
    simp only [fc, List.cons_append, List.nil_append, List.mem_cons] at hu
    rcases hu with rfl | rfl | hu
    · rfl
    · exact h x (List.mem_cons_self ..)
    · exact ih (fun e he => h e (List.mem_cons_of_mem _ he)) u hu
theorem fc_get (E : List (List UInt8 × Value)) (i : Nat) (h : i < E.length) : (fc E)[i * 2]? = some (.string ⟨E[i].1.toArray⟩) ∧ (fc E)[i * 2 + 1]? = some E[i].2 := by
  induction E generalizing i with
  | nil => simp at h
  | cons x L ih =>
    cases i with
    | zero => simp [fc]
    | succ i =>
      have h2 := ih i (by simpa using h)
      have e1 : (i + 1) * 2 = i * 2 + 1 + 1 := by omega
      have e2 : (i + 1) * 2 + 1 = i * 2 + 1 + 1 + 1 := by omega
      rw [e2, e1]
      simpa [fc] using h2
/-- a slice of bytes, as a value -/
def ByteV (w : World) (v : Value) (l : List UInt8) : Prop := ∃ q c, v = .slice q l.length c ∧ (q = none → c = 0) ∧ l.length ≤ maxLen ∧ In8 w q l
theorem Own8.byteV {w : World} {base : Nat} {v : Value} {l : List UInt8} (h : Own8 w base v l) : ByteV w v l := by
  obtain ⟨q, c, e, h1, h2, h3⟩ := h.in8
  refine ⟨q, c, e, fun hq => ?_, by omega, h3⟩
  subst hq
  rcases h.2 with ⟨e2, _⟩ | ⟨g, cap, cur, e2, _⟩
  · rw [e] at e2; injection e2
  · rw [e] at e2; injection e2 with e2; cases e2
theorem ByteV.below {w w' : World} {v : Value} {l : List UInt8} (h : ByteV w v l) (hb : Below w.heap.size w w') : ByteV w' v l := by
  obtain ⟨q, c, e, h1, h2, h3⟩ := h
  exact ⟨q, c, e, h1, h2, h3.below hb⟩
theorem ByteV.one {w : World} {v : Value} {l : List UInt8} (h : ByteV w v l) : v.oneCell' = true := by
  obtain ⟨q, c, e, _⟩ := h
  rw [e]; rfl
def InE (w : World) (p : Option Addr) (E : List (List UInt8 × Value)) : Prop :=
  0 < E.length → ∃ b o, p = some ⟨b, o, none⟩ ∧ ∀ j v, (fc E)[j]? = some v → w.cell? ⟨b, o + j, none⟩ = some v
theorem InE.below {w w' : World} {p : Option Addr} {E : List (List UInt8 × Value)} (h : InE w p E) (hb : Below w.heap.size w w') : InE w' p E := by
  intro h0
  obtain ⟨b, o, rfl, hc⟩ := h h0
  refine ⟨b, o, rfl, fun j v hv => ?_⟩
  have := hc j v hv
  rw [hb.cell (p := ⟨b, o + j, none⟩) (World.block_lt_of_cell? w _ this)]
  exact this
theorem InE.one (w : World) (x : ByteArray) (u : Value) (e : TypeId) : InE (w.alloc (.cells #[.string x, u] e)) (some ⟨w.heap.size, 0, none⟩) [(x.data.toList, u)] := by
  intro _
  refine ⟨w.heap.size, 0, rfl, fun j v hv => ?_⟩
  rw [cell_of_row _ _ _ _ _ _ (heap_alloc_new w (.cells #[.string x, u] e)), Nat.zero_add, ← Array.getElem?_toList, ← hv]
  simp [fc]
def InFs (w : World) (p : Option Addr) (L : List FT) : Prop :=
  ∃ E, InE w p E ∧ E.length = L.length ∧ ∀ (i : Nat) (e : List UInt8 × Value) (x : FT), E[i]? = some e → L[i]? = some x → e.1 = x.1 ∧ ByteV w e.2 x.2
theorem InFs.below {w w' : World} {p : Option Addr} {L : List FT} (h : InFs w p L) (hb : Below w.heap.size w w') : InFs w' p L := by
  obtain ⟨E, h1, h2, h3⟩ := h
  exact ⟨E, h1.below hb, h2, fun i e x he hx => ⟨(h3 i e x he hx).1, (h3 i e x he hx).2.below hb⟩⟩
theorem InFs.at {w : World} {p : Option Addr} {L : List FT} (h : InFs w p L) {k : Nat} (hk : k < L.length) :
    ∃ b o, p = some ⟨b, o, none⟩ ∧ ∃ (x : ByteArray) (q : Option Addr) (c : Nat), w.cell? ⟨b, o + k * 2, none⟩ = some (.string x) ∧ w.cell? ⟨b, o + k * 2 + 1, none⟩ = some (.slice q L[k].2.length c) ∧ x.data.toList = L[k].1 ∧ (q = none → c = 0) ∧ L[k].2.length ≤ maxLen ∧ In8 w q L[k].2 := by
  obtain ⟨E, h1, h2, h3⟩ := h
  obtain ⟨b, o, e, hc⟩ := h1 (by omega)
  obtain ⟨g1, g2⟩ := fc_get E k (by omega)
  obtain ⟨e1, q, c, e2, z1, z2, z3⟩ := h3 k E[k] L[k] (List.getElem?_eq_getElem (by omega)) (List.getElem?_eq_getElem hk)
  rw [e2] at g2
  exact ⟨b, o, e, _, q, c, hc _ _ g1, (by have := hc _ _ g2; rwa [← Nat.add_assoc] at this), e1, z1, z2, z3⟩
theorem InFs.nil (w : World) (p : Option Addr) : InFs w p [] := ⟨[], fun h => absurd h (by simp), rfl, fun i e x he => by simp at he⟩

/-- a row of the call's own of files, whose bytes are the call's own too -/
def OwnFs (w : World) (base : Nat) (v : Value) (L : List FT) : Prop :=
  ∃ E, w.ownsRow base 45 2 v E.length (fc E) ∧ E.length = L.length ∧ ∀ (i : Nat) (e : List UInt8 × Value) (x : FT), E[i]? = some e → L[i]? = some x → e.1 = x.1 ∧ Own8 w base e.2 x.2
theorem OwnFs.nil (w : World) (base : Nat) : OwnFs w base (.slice none 0 0) [] := ⟨[], World.ownsRow_nil _ _ _ _, rfl, fun i e x he => by simp at he⟩
theorem OwnFs.made (w : World) : OwnFs (w.alloc (.cells #[] 45)) w.heap.size (.slice (some ⟨w.heap.size, 0, none⟩) 0 0) [] :=
  ⟨[], ⟨rfl, .inr ⟨w.heap.size, 0, #[], rfl, Nat.le_refl _, heap_alloc_new w _, by simp, by unfold maxLen; omega, rfl, rfl⟩⟩, rfl, fun i e x he => by simp at he⟩
theorem OwnFs.below {w w' : World} {base : Nat} {v : Value} {L : List FT} (h : OwnFs w base v L) (hb : Below w.heap.size w w') : OwnFs w' base v L := by
  obtain ⟨E, h1, h2, h3⟩ := h
  exact ⟨E, ownsRow_below h1 hb, h2, fun i e x he hx => ⟨(h3 i e x he hx).1, (h3 i e x he hx).2.below hb⟩⟩
theorem OwnFs.mono {w : World} {base base' : Nat} {v : Value} {L : List FT} (h : OwnFs w base v L) (hb : base' ≤ base) : OwnFs w base' v L := by
  obtain ⟨E, h1, h2, h3⟩ := h
  exact ⟨E, ownsRow_mono h1 hb, h2, fun i e x he hx => ⟨(h3 i e x he hx).1, (h3 i e x he hx).2.mono hb⟩⟩
theorem OwnFs.lt {w : World} {base : Nat} {v : Value} {L : List FT} (h : OwnFs w base v L) {g : Nat} (hg : v.ownBlock = some g) : base ≤ g ∧ g < w.heap.size := by
  obtain ⟨E, h1, _⟩ := h
  exact World.ownsRow.lt h1 g hg
theorem OwnFs.shape {w : World} {base n : Nat} {v : Value} {L : List FT} (h : OwnFs w base v L) (hn : L.length = n) :
    ∃ p c, v = .slice p n c ∧ n ≤ c ∧ c ≤ maxLen ∧ InFs w p L ∧ (∀ a, p = some a → base ≤ a.block ∧ a.block < w.heap.size ∧ a.off = 0 ∧ a.spot = none) := by
  subst hn
  obtain ⟨E, h1, h2, h3⟩ := h
  have hlt := World.ownsRow.lt h1
  rw [← h2]
  rcases h1.2 with ⟨rfl, hn⟩ | ⟨g, cap, cur, rfl, hb, hg, hnc, hcm, hcs, ht⟩
  · refine ⟨none, 0, by rw [hn], by omega, by unfold maxLen; omega, ⟨E, fun h0 => by omega, h2, fun i e x he hx => ⟨(h3 i e x he hx).1, (h3 i e x he hx).2.byteV⟩⟩, fun a ha => by cases ha⟩
  · refine ⟨some ⟨g, 0, none⟩, cap, rfl, hnc, hcm, ⟨E, fun h0 => ⟨g, 0, rfl, fun j v hv => ?_⟩, h2, fun i e x he hx => ⟨(h3 i e x he hx).1, (h3 i e x he hx).2.byteV⟩⟩, fun a ha => ?_⟩
    · rw [cell_of_row _ _ _ _ _ _ hg, Nat.zero_add, ← Array.getElem?_toList]
      have hj : j < E.length * 2 := by rw [← fc_length]; exact (List.getElem?_eq_some_iff.1 hv).1
      rw [← ht, List.getElem?_take_of_lt hj] at hv
      exact hv
    · obtain rfl := Option.some.inj ha
      exact ⟨hb, (hlt g rfl).2, rfl, rfl⟩
theorem OwnFs.grown {w w1 w' : World} {B : Nat} {v : Value} {L : List FT} (hB : Below B w w1) (hs : B ≤ w1.heap.size) (hown : OwnFs w1 B v L) (hg : w1.grownBy w' v.ownBlock) : Below B w w' :=
  hB.grown hg hs (fun _ e => (hown.lt e).1)
theorem infoF : (Tryd.prog.info? 45).map (fun i => (i.zero, i.size, i.bytes)) = some (some (.agg #[.string .empty, .slice none 0 0]), 2, 40) := by kernel_rfl
theorem ownFs_snoc {w w' : World} {base : Nat} {v v' u : Value} {E : List (List UInt8 × Value)} {L : List FT} {k d : List UInt8} (h1 : w.ownsRow base 45 2 v E.length (fc E)) (h2 : E.length = L.length) (h3 : ∀ (i : Nat) (e : List UInt8 × Value) (x : FT), E[i]? = some e → L[i]? = some x → e.1 = x.1 ∧ Own8 w base e.2 x.2)
    (hu : Own8 w base u d) (ho' : w'.ownsRow base 45 2 v' (E.length + 1) (fc E ++ fc [(k, u)])) (hg : w.grownBy w' v.ownBlock) : OwnFs w' base v' (L ++ [(k, d)]) := by
  have keep : ∀ (z : Value) (l : List UInt8), Own8 w base z l → Own8 w' base z l := fun z l hz => hz.kept hg (by
    cases hzb : z.ownBlock with
    | none => exact .inl rfl
    | some g =>
      right
      intro e
      obtain ⟨cur, hc⟩ := rowBlk hz hzb
      obtain ⟨cur2, hc2⟩ := rowBlk h1 e.symm
      rw [hc] at hc2
      injection hc2 with e2
      injection e2 with _ e2
      exact absurd e2 (by decide))
  refine ⟨E ++ [(k, u)], by rw [List.length_append, fc_append]; exact ho', by rw [List.length_append, List.length_append, h2]; rfl, fun i e y he hy => ?_⟩
  by_cases hi : i < E.length
  · rw [List.getElem?_append_left hi] at he
    rw [List.getElem?_append_left (by omega)] at hy
    exact ⟨(h3 i e y he hy).1, keep _ _ (h3 i e y he hy).2⟩
  · have hlt := (List.getElem?_eq_some_iff.1 he).1
    rw [List.length_append] at hlt
    simp only [List.length_cons, List.length_nil] at hlt
    obtain rfl : i = E.length := by omega
    rw [List.getElem?_append_right (Nat.le_refl _)] at he
    rw [List.getElem?_append_right (by omega)] at hy
    simp only [Nat.sub_self, h2, List.getElem?_cons_zero, Option.some.injEq] at he hy
    subst he hy
    exact ⟨rfl, keep _ _ hu⟩
theorem src_file {w : World} {b c : Nat} {k : List UInt8} {u : Value} (hin : InE w (some ⟨b, 0, none⟩) [(k, u)]) (hone : u.oneCell' = true) : Src Tryd.prog 2 22 (.slice (some ⟨b, 0, none⟩) 1 c) 1 (fc [(k, u)]) w := by
  obtain ⟨b', o', e, hc⟩ := hin (by simp)
  obtain ⟨rfl, rfl⟩ : b = b' ∧ 0 = o' := by injection e with e; injection e with e1 e2; exact ⟨e1, e2⟩
  refine Src.ofSlice w Tryd.underlying22 ⟨b, 0, none⟩ 1 c (fc [(k, u)]) (by rw [fc_length]; rfl) (fun j z hz => ?_) (fc_one fun e he => by rw [List.mem_singleton.1 he]; exact hone)
  rw [Go.WideShapes.add_plain]; exact hc j z hz
section
variable {w : World}
/-- one file more -/
theorem wpList_appendFs {ops : Array Oper} {rest : List Oper} {o : Oper} {a : Act} {Q : Exit → Act → World → Prop} (hgd : o.guard = none) (s x : Operand)
    (ho : o.op = .call { callee := .builtin .append, args := #[s, x], argTypes := #[22, 22] })
    (base : Nat) (v : Value) (L : List FT) (hv : a.eval s = v) (hown : OwnFs w base v L)
    (b c : Nat) (k : List UInt8) (u : Value) (d : List UInt8) (hx : a.eval x = .slice (some ⟨b, 0, none⟩) 1 c) (hin : InE w (some ⟨b, 0, none⟩) [(k, u)]) (hu : Own8 w base u d)
    (hr : L.length ≤ 4500000000000) (hbase : base ≤ w.heap.size)
    (h : ∀ v' w', OwnFs w' base v' (L ++ [(k, d)]) → w.grownBy w' v.ownBlock → wpList Tryd.prog ops Q rest (a.put o.dst v') w') : wpList Tryd.prog ops Q (o :: rest) a w := by
  obtain ⟨E, h1, h2, h3⟩ := hown
  refine wpList_append_way w hgd s x 22 22 ho base 45 (.agg #[.string .empty, .slice none 0 0]) 2 40 Tryd.underlying22 infoF rfl v E.length (fc E) hv h1 _ 1 (fc [(k, u)]) hx (src_file hin hu.byteV.one) (by unfold maxLen; omega) (by omega) hbase ?_
  intro v' w' ho' hg _
  exact h v' w' (ownFs_snoc h1 h2 h3 hu ho' hg) hg
/-- the same, as a step of a region that draws -/
theorem step_appendFs {ops : Array Oper} {o : Oper} {a : Act} {K : Act → World → Prop} {Q : Exit → Act → World → Prop} {P : Prop} (hgd : o.guard = none) (s x : Operand)
    (ho : o.op = .call { callee := .builtin .append, args := #[s, x], argTypes := #[22, 22] })
    (base : Nat) (v : Value) (L : List FT) (hv : a.eval s = v) (hown : OwnFs w base v L)
    (b c : Nat) (k : List UInt8) (u : Value) (d : List UInt8) (hx : a.eval x = .slice (some ⟨b, 0, none⟩) 1 c) (hin : InE w (some ⟨b, 0, none⟩) [(k, u)]) (hu : Own8 w base u d)
    (hr : L.length ≤ 4500000000000) (hbase : base ≤ w.heap.size)
    (h : ∀ v' w', OwnFs w' base v' (L ++ [(k, d)]) → w.grownBy w' v.ownBlock → K (a.put o.dst v') w') :
    if Region.wanted o (yielded ops a.tmps) = true then Oper.wp Tryd.prog o a w K Q else P := by
  obtain ⟨E, h1, h2, h3⟩ := hown
  refine step_append_fit hgd s x 22 22 ho base 45 (.agg #[.string .empty, .slice none 0 0]) 2 40 Tryd.underlying22 infoF rfl v E.length (fc E) hv h1 _ 1 (fc [(k, u)]) hx (src_file hin hu.byteV.one) (by unfold maxLen; omega) (by omega) hbase ?_
  intro v' w' ho' hg
  exact h v' w' (ownFs_snoc h1 h2 h3 hu ho' hg) hg
end
end Go.Proofs.YtnhfnfdmpcpcoaaDoor

/-
  A disk that New is making, with its first files.
-/
namespace Go.Proofs.YtnhfnfdmpcpcoaaDoor
open Go.RowKit Go.Maps

def zipN (F : List FT) (G : List FileC) : NM := List.zipWith (fun x f => (x.1, f.blk)) F G
structure NewAt (wr : World) (F : List FT) (k dd bn : Nat) (room : Int) (fv : Value) (power : Int) (P : Nat → Prop) (G : List FileC) : Prop where
  blk : wr.heap[dd]? = some (.cells #[.map (some bn), .map none, .slice none 0 0, .int .i64 k, .int .i64 room, fv, .int .i64 power, .int .i64 0] 79 (0, 0))
  now : OwnN wr bn (zipN (F.take k) G)
  len : G.length = k
  kf : k ≤ F.length
  files : ∀ (i : Nat) (f : FileC), G[i]? = some f → FileAt wr P i f ∧ ∀ x, F[i]? = some x → f.data = x.2 ∧ f.firm = x.2.length
  apart : ApartF G
  ok : okF (F.take k)
theorem insN_last (k : BS) (f : Nat) : ∀ M : NM, (∀ y ∈ M, y.1 < k) → insN k f M = M ++ [(k, f)]
  | [], _ => rfl
  | (m, g) :: M, h => by
    have hm := h (m, g) (List.mem_cons_self ..)
    unfold insN
    rw [if_neg (fun e => by simp only [e] at hm; exact absurd hm (List.lt_irrefl _)), if_neg (fun e => absurd (List.lt_trans hm e) (List.lt_irrefl _)), insN_last k f M fun y hy => h y (List.mem_cons_of_mem _ hy)]
    rfl
theorem zipN_snoc {F : List FT} {G : List FileC} (x : FT) (f : FileC) (h : F.length = G.length) : zipN (F ++ [x]) (G ++ [f]) = zipN F G ++ [(x.1, f.blk)] := by
  unfold zipN
  rw [List.zipWith_append h]
  rfl
theorem zipN_mem {F : List FT} {G : List FileC} {y : BS × Nat} (h : y ∈ zipN F G) : (∃ x ∈ F, x.1 = y.1) ∧ ∃ f ∈ G, f.blk = y.2 := by
  unfold zipN at h
  obtain ⟨i, hi, e⟩ := List.getElem_of_mem h
  rw [List.getElem_zipWith] at e
  rw [← e]
  exact ⟨⟨_, List.getElem_mem _, rfl⟩, _, List.getElem_mem _, rfl⟩
theorem okF_snoc {F : List FT} {k : Nat} {x : FT} (hx : F[k]? = some x) (h : okF (F.take k)) (hg : badN x.1 = false) (hl : ∀ y, 0 < k → F[k - 1]? = some y → y.1 < x.1) : okF (F.take (k + 1)) ∧ ∀ y ∈ F.take k, y.1 < x.1 := by
  obtain ⟨hk, ex⟩ := List.getElem?_eq_some_iff.1 hx
  have hall : ∀ y ∈ F.take k, y.1 < x.1 := by
    intro y hy
    obtain ⟨i, hi, e⟩ := List.getElem_of_mem hy
    rw [List.length_take] at hi
    have hlast := hl F[k - 1] (by omega) (List.getElem?_eq_getElem (by omega))
    by_cases h1 : i = k - 1
    · subst h1
      rw [List.getElem_take] at e
      rw [← e]; exact hlast
    · have hp := List.pairwise_iff_getElem.1 h.2 i (k - 1) (by rw [List.length_take]; omega) (by rw [List.length_take]; omega) (by omega)
      rw [List.getElem_take, List.getElem_take] at hp
      rw [List.getElem_take] at e
      rw [← e]
      exact List.lt_trans hp hlast
  refine ⟨?_, hall⟩
  rw [List.take_succ_eq_append_getElem hk, ex]
  refine ⟨fun y hy => ?_, ?_⟩
  · rcases List.mem_append.1 hy with e | e
    · exact h.1 y e
    · rw [List.mem_singleton.1 e]; exact hg
  · rw [List.pairwise_append]
    refine ⟨h.2, List.pairwise_singleton _ _, fun a ha b hb => ?_⟩
    rw [List.mem_singleton.1 hb]
    exact hall a ha
theorem okF_bad {F : List FT} {k : Nat} {x : FT} (hx : F[k]? = some x) (h : badN x.1 = true ∨ ∃ y, 0 < k ∧ F[k - 1]? = some y ∧ ¬ y.1 < x.1) : ¬ okF F := by
  intro ho
  obtain ⟨hk, ex⟩ := List.getElem?_eq_some_iff.1 hx
  rcases h with h | ⟨y, h0, hy, hn⟩
  · have := ho.1 x (List.mem_of_getElem? hx)
    rw [h] at this; cases this
  · obtain ⟨hk2, ey⟩ := List.getElem?_eq_some_iff.1 hy
    have := List.pairwise_iff_getElem.1 ho.2 (k - 1) k hk2 hk (by omega)
    rw [ey, ex] at this
    exact hn this

/-- one file more -/
theorem NewAt.step {wr W4 W5 W6 : World} {F : List FT} {k dd bn g0 : Nat} {room power : Int} {fv v : Value} {P : Nat → Prop} {G : List FileC} {x : FT} (h : NewAt wr F k dd bn room fv power P G) (hx : F[k]? = some x)
    (hb : Below wr.heap.size wr W4) (hg0 : wr.heap.size ≤ g0) (hfile : W4.heap[g0]? = some (.cells #[.int .i64 k, v, .int .i64 x.2.length] 81 (0, 0))) (hown : Own8 W4 wr.heap.size v x.2)
    (hgr : W4.grownBy W5 (some bn)) (hmap : OwnN W5 bn (insN x.1 g0 (zipN (F.take k) G))) (h6 : W6 = W5.setCell ⟨dd, 3, none⟩ (.int .i64 ((k : Int) + 1))) (hP : ∀ g, wr.heap.size ≤ g → P g) (hok : okF (F.take (k + 1))) (hlast : ∀ y ∈ F.take k, y.1 < x.1) :
    NewAt W6 F (k + 1) dd bn room fv power P (G ++ [⟨g0, v, x.2, x.2.length⟩]) := by
  obtain ⟨hk, ex⟩ := List.getElem?_eq_some_iff.1 hx
  have hbn := map_ne h.now h.blk
  have hbnl := h.now.lt
  have keep : ∀ g, g < wr.heap.size → g ≠ bn → g ≠ dd → W6.heap[g]? = wr.heap[g]? := fun g h1 h2 h3 => by
    rw [h6]
    exact ((Below.heap_setCell _ _ _ _ h3).trans (hgr.block g (Nat.lt_of_lt_of_le h1 hb.size) (fun e => h2 (by injection e)))).trans (hb.block g h1)
  have keep4 : ∀ g, g < W4.heap.size → g ≠ bn → g ≠ dd → W6.heap[g]? = W4.heap[g]? := fun g h1 h2 h3 => by
    rw [h6]
    exact (Below.heap_setCell _ _ _ _ h3).trans (hgr.block g h1 (fun e => h2 (by injection e)))
  have hddl := lt_of_heap h.blk
  have hdd5 : W5.heap[dd]? = some (.cells #[.map (some bn), .map none, .slice none 0 0, .int .i64 k, .int .i64 room, fv, .int .i64 power, .int .i64 0] 79 (0, 0)) :=
    ((hgr.block dd (Nat.lt_of_lt_of_le hddl hb.size) (fun e => hbn (by injection e with e; exact e.symm))).trans (hb.block dd hddl)).trans h.blk
  refine ⟨?_, ?_, by rw [List.length_append, h.len]; rfl, by omega, ?_, ?_, hok⟩
  · rw [h6]
    simp only [World.setCell, Array.getElem?_modify, hdd5]
    simp
  · have e : zipN (F.take (k + 1)) (G ++ [⟨g0, v, x.2, x.2.length⟩]) = insN x.1 g0 (zipN (F.take k) G) := by
      rw [List.take_succ_eq_append_getElem hk, ex, zipN_snoc x _ (by rw [List.length_take, h.len]; omega), insN_last _ _ _ fun y hy => ?_]
      obtain ⟨⟨z, hz, e⟩, _⟩ := zipN_mem hy
      rw [← e]; exact hlast z hz
    rw [e]
    exact hmap.kept (by rw [h6]; exact Below.heap_setCell _ _ _ _ hbn)
  · intro i f hf
    by_cases hi : i < G.length
    · rw [List.getElem?_append_left hi] at hf
      obtain ⟨⟨a1, a2, a3, a4, a5⟩, a6⟩ := h.files i f hf
      have hf1 := lt_of_heap a1
      refine ⟨⟨(keep _ hf1 (fun e => map_ne h.now a1 e.symm) (blk_ne a1 h.blk (by decide))).trans a1, ?_, a3, a4, a5⟩, a6⟩
      refine ⟨a2.1, ?_⟩
      rcases a2.2 with h0 | ⟨g, cap, cur, e, c1, c2, r⟩
      · exact .inl h0
      · exact .inr ⟨g, cap, cur, e, c1, (keep g (lt_of_heap c2) (fun e => map_ne h.now c2 e.symm) (blk_ne c2 h.blk (by decide))).trans c2, r⟩
    · have hlt := (List.getElem?_eq_some_iff.1 hf).1
      rw [List.length_append] at hlt
      simp only [List.length_cons, List.length_nil] at hlt
      obtain rfl : i = G.length := by omega
      rw [List.getElem?_append_right (Nat.le_refl _)] at hf
      simp only [Nat.sub_self, List.getElem?_cons_zero, Option.some.injEq] at hf
      subst hf
      have hgk := h.len
      refine ⟨⟨?_, ?_, fun r hr => hP r (World.ownsRow.lt hown r hr).1, hP _ hg0, Nat.le_refl _⟩, fun y hy => ?_⟩
      · show W6.heap[g0]? = some (.cells #[.int .i64 (G.length : Nat), v, .int .i64 (x.2.length : Nat)] 81 (0, 0))
        rw [hgk]
        exact (keep4 g0 (lt_of_heap hfile) (by omega) (by omega)).trans hfile
      · show Own8 W6 0 v x.2
        refine ⟨hown.1, ?_⟩
        rcases hown.2 with h0 | ⟨g, cap, cur, e, c1, c2, r⟩
        · exact .inl h0
        · exact .inr ⟨g, cap, cur, e, Nat.zero_le _, (keep4 g (lt_of_heap c2) (by omega) (by omega)).trans c2, r⟩
      · rw [hgk] at hy
        rw [hx] at hy
        injection hy with hy
        rw [← hy]
        exact ⟨rfl, rfl⟩
  · show List.Pairwise _ _
    rw [List.pairwise_append]
    refine ⟨h.apart, List.pairwise_singleton _ _, fun z hz y hy => ?_⟩
    rw [List.mem_singleton.1 hy]
    obtain ⟨j, hj, e⟩ := List.getElem_of_mem hz
    obtain ⟨⟨a1, a2, _⟩, _⟩ := h.files j z (by rw [List.getElem?_eq_getElem hj, e])
    refine ⟨fun e3 => ?_, fun r hr e3 => ?_⟩
    · have := lt_of_heap a1
      simp only at e3
      omega
    · obtain ⟨cur, hc⟩ := rowBlk a2 hr
      have h1 := lt_of_heap hc
      have h2 := (World.ownsRow.lt hown r e3).1
      omega

/-- the disk is made -/
theorem NewAt.done {wr w1 W : World} {F : List FT} {dd bn bs : Nat} {room power : Int} {fv : Value} {fp : Option Addr} {fc : Nat} {Z : List Int} {B : Nat} {G : List FileC} (h : NewAt wr F F.length dd bn room fv power (fun g => B ≤ g ∧ fv.ownBlock ≠ some g) G)
    (hfv : fv = .slice fp Z.length fc) (hrow : wr.ownsRow B 3 1 fv Z.length (Z.map (Value.int .i64))) (hb : Below wr.heap.size wr w1) (hbs : bs = wr.heap.size) (hsafe : OwnN w1 bs (zipN F G)) (hW : W = w1.setCell ⟨dd, 1, none⟩ (.map (some bs))) (h0 : 0 ≤ room) (hB : B ≤ dd ∧ B ≤ bn) (hBs : B ≤ wr.heap.size) :
    DiskP W (fun g => B ≤ g ∧ fv.ownBlock ≠ some g) dd (newP F room Z power) := by
  have hnow := h.now
  rw [List.take_length] at hnow
  have hbnl := hnow.lt
  have hddl := lt_of_heap h.blk
  have hbn := map_ne hnow h.blk
  have keep : ∀ g, g < wr.heap.size → g ≠ dd → W.heap[g]? = wr.heap[g]? := fun g h1 h2 => by
    rw [hW]
    exact (Below.heap_setCell _ _ _ _ h2).trans (hb.block g h1)
  have hrm : (room.toNat : Int) = room := by omega
  have hblk : W.heap[dd]? = some (.cells (diskCells ⟨bn, bs, zipN F G, zipN F G, .slice none 0 0, [], [], G, room.toNat, fv, fp, fc, Z, power, 0⟩) 79 (0, 0)) := by
    have hdd1 := (hb.block dd hddl).trans h.blk
    rw [hW]
    simp only [World.setCell, Array.getElem?_modify, hdd1]
    simp [diskCells, h.len, hrm]
  have hfl : ∀ (g : Nat), fv.ownBlock = some g → ∃ cur, wr.heap[g]? = some (.cells cur 3 (0, 0)) := fun g hg => rowBlk hrow hg
  refine ⟨⟨bn, bs, zipN F G, zipN F G, .slice none 0 0, [], [], G, room.toNat, fv, fp, fc, Z, power, 0⟩, ⟨hblk, ?_, ?_, by show bn ≠ bs; omega, World.ownsRow_nil _ _ _ _, fun i v c h1 => by simp at h1, ⟨hfv, ?_, ?_⟩, ?_, h.apart, ?_, ?_, ⟨⟨hB.1, fun e => ?_⟩, ⟨hB.2, fun e => ?_⟩, ⟨by show B ≤ bs; omega, fun e => ?_⟩, fun r hr => by cases hr⟩⟩, ?_⟩
  · exact hnow.kept (keep bn hbnl hbn)
  · have hne : bs ≠ dd := by omega
    exact hsafe.kept (by rw [hW]; exact Below.heap_setCell _ _ _ _ hne)
  · obtain ⟨p', c', e, _, _, hin, _⟩ := owns_shape hrow
    rw [hfv] at e
    injection e with e _ _
    subst e
    intro h1
    obtain ⟨b, o, e, hc⟩ := hin h1
    have hob : fv.ownBlock = some b := by rw [hfv, e]; rfl
    obtain ⟨cur, hcur⟩ := hfl b hob
    refine ⟨b, o, e, fun i hi => ?_⟩
    have := hc i hi
    have hk := keep b (lt_of_heap hcur) (blk_ne hcur h.blk (by decide))
    simp only [World.cell?, hk]
    exact this
  · intro a ha h1 hPa
    have ha : fp = some a := ha
    exact hPa.2 (by rw [hfv, ha]; rfl)
  · intro i f hf
    obtain ⟨⟨a1, a2, a3, a4, a5⟩, _⟩ := h.files i f hf
    refine ⟨(keep _ (lt_of_heap a1) (blk_ne a1 h.blk (by decide))).trans a1, ?_, a3, a4, a5⟩
    refine ⟨a2.1, ?_⟩
    rcases a2.2 with h0 | ⟨g, cap, cur, e, c1, c2, r⟩
    · exact .inl h0
    · exact .inr ⟨g, cap, cur, e, c1, (keep g (lt_of_heap c2) (blk_ne c2 h.blk (by decide))).trans c2, r⟩
  · intro x hx
    obtain ⟨_, f, hf, e⟩ := zipN_mem hx
    exact ⟨f, hf, e⟩
  · intro x hx
    obtain ⟨_, f, hf, e⟩ := zipN_mem hx
    exact ⟨f, hf, e⟩
  · obtain ⟨cur, hc⟩ := hfl dd e
    exact blk_ne hc h.blk (by decide) rfl
  · obtain ⟨cur, hc⟩ := hfl bn e
    exact map_ne hnow hc rfl
  · obtain ⟨cur, hc⟩ := hfl bs e
    have := lt_of_heap hc
    omega
  · have hz : mapN (noF G) (zipN F G) = numF 0 F := by
      apply List.ext_getElem?
      intro i
      unfold mapN zipN
      rw [List.getElem?_map, numF_get, List.getElem?_zipWith]
      cases hF : F[i]? with
      | none => simp
      | some x =>
        have hi := (List.getElem?_eq_some_iff.1 hF).1
        have hlen := h.len
        have hG : G[i]? = some G[i] := List.getElem?_eq_getElem (by omega)
        rw [hG]
        simp only [Option.map_some, Nat.zero_add, Option.some.injEq, Prod.mk.injEq, true_and]
        exact noF_at G i _ h.apart hG
    unfold absD newP
    simp only [hz, Pl.mk.injEq, List.map_nil, true_and, and_true]
    apply List.ext_getElem?
    intro i
    rw [List.getElem?_map, List.getElem?_map]
    have hlen := h.len
    cases hF : F[i]? with
    | none =>
      have : F.length ≤ i := List.getElem?_eq_none_iff.1 hF
      rw [List.getElem?_eq_none (by omega)]; rfl
    | some x =>
      have hi := (List.getElem?_eq_some_iff.1 hF).1
      have hG : G[i]? = some G[i] := List.getElem?_eq_getElem (by omega)
      obtain ⟨_, a6⟩ := h.files i _ hG
      obtain ⟨e1, e2⟩ := a6 x hF
      rw [hG]
      simp only [Option.map_some, e1, e2]
end Go.Proofs.YtnhfnfdmpcpcoaaDoor

/-
  Left: what a loss of power leaves.
-/
namespace Go.Proofs.YtnhfnfdmpcpcoaaDoor
open Go.RowKit Go.Maps

/-- the names behind the first changes -/
def stN (S : DiskC) (n : Int) (i : Nat) : NM := (S.pend.take (min i n.toNat)).foldl (fun M c => applyC c M) S.safe
theorem stN_zero (S : DiskC) (n : Int) : stN S n 0 = S.safe := by unfold stN; simp
theorem stN_step (S : DiskC) (n : Int) (i : Nat) (c : Chg) (hc : S.pend[i]? = some c) (h : (i : Int) < n) : stN S n (i + 1) = applyC c (stN S n i) := by
  unfold stN
  have e1 : min (i + 1) n.toNat = i + 1 := by omega
  have e2 : min i n.toNat = i := by omega
  obtain ⟨hi, e⟩ := List.getElem?_eq_some_iff.1 hc
  rw [e1, e2, List.take_succ_eq_append_getElem hi, e, List.foldl_append]
  rfl
theorem stN_skip (S : DiskC) (n : Int) (i : Nat) (h : ¬ (i : Int) < n) : stN S n (i + 1) = stN S n i := by
  unfold stN
  have e1 : min (i + 1) n.toNat = n.toNat := by omega
  have e2 : min i n.toNat = n.toNat := by omega
  rw [e1, e2]
theorem stN_end (S : DiskC) (n : Int) : mapN (noF S.files) (stN S n S.pend.length) = leftNP (absD S) n := by
  unfold stN leftNP
  have e : S.pend.take (min S.pend.length n.toNat) = S.pend.take n.toNat := by
    rw [List.take_eq_take_iff]; omega
  rw [e]
  unfold absD
  simp only
  rw [← List.map_take, fold_map]
theorem stN_length (S : DiskC) (n : Int) (i : Nat) : (stN S n i).length ≤ S.safe.length + S.pend.length := by
  unfold stN
  refine Nat.le_trans (fold_length _ _) ?_
  rw [List.length_take]
  omega
theorem fold_file (S : DiskC) : ∀ (C : List Chg) (M : NM), (∀ x ∈ M, HasFile S x.2) → (∀ c ∈ C, ChgFile S c) → ∀ x ∈ C.foldl (fun M c => applyC c M) M, HasFile S x.2
  | [], _, h, _ => h
  | c :: C, M, h, hc => fold_file S C _ (fun x hx => by
      have h1 := hc c (List.mem_cons_self ..)
      cases c with
      | put k f =>
        rcases insN_mem k f x M hx with e | e
        · rw [e]; exact h1
        · exact h x e
      | ren a k f =>
        rcases insN_mem k f x _ hx with e | e
        · rw [e]; exact h1
        · exact h x (delN_mem e).1
      | del k => exact h x (delN_mem hx).1) fun d hd => hc d (List.mem_cons_of_mem _ hd)
theorem good_len {l : List UInt8} (h : badN l = false) : l.length ≤ 64 := by
  unfold badN goodN at h
  simp at h
  exact h.1.2
theorem left_at {S : DiskC} {n : Int} {K : List Int} {M : NM} (hM : mapN (noF S.files) M = leftNP (absD S) n) {k : Nat} (hk : k < M.length) {no : Nat} {f : FileC} (hap : ApartF S.files) (hf : S.files[no]? = some f) (hg : f.blk = M[k].2) :
    (leftP (absD S) n K)[k]? = some (M[k].1, f.data.take (f.firm + moreP K no (f.data.length - f.firm))) := by
  unfold leftP
  rw [← hM]
  unfold mapN
  rw [List.getElem?_map, List.getElem?_map, List.getElem?_eq_getElem hk]
  simp only [Option.map_some, Option.some.injEq, Prod.mk.injEq, true_and]
  have e : noF S.files M[k].2 = no := by rw [← hg]; exact noF_at _ _ _ hap hf
  rw [e]
  unfold leftDP
  rw [(datP_of hf).1, (datP_of hf).2]
theorem take_snoc_get {α : Type} {L : List α} {k : Nat} {x : α} (h : L[k]? = some x) : L.take (k + 1) = L.take k ++ [x] := by
  obtain ⟨hi, e⟩ := List.getElem?_eq_some_iff.1 h
  rw [List.take_succ_eq_append_getElem hi, e]
theorem In8.take {w : World} {p : Option Addr} {l : List UInt8} (h : In8 w p l) (m : Nat) : In8 w p (l.take m) := by
  have e : l = l.take m ++ l.drop m := (List.take_append_drop m l).symm
  rw [e] at h
  exact h.fore
theorem stN_file {w : World} {P : Nat → Prop} {dd : Nat} {S : DiskC} (h : DiskAt w P dd S) (n : Int) (i : Nat) : ∀ x ∈ stN S n i, HasFile S x.2 :=
  fold_file S _ _ h.safeF fun c hc => h.pendF c (List.mem_of_mem_take hc)

set_option maxRecDepth 100000 in
set_option maxHeartbeats 4000000 in
theorem left_p {w : World} {P : Nat → Prop} {dd : Nat} {A : Pl} (h : DiskP w P dd A) (n : Int) (K : List Int) (kp : Option Addr) (kc : Nat) (hK : InV w kp (K.map (Value.int .i64))) (hinv : Inv A) (hpl : A.pend.length ≤ 1000000) (hsl : A.safe.length ≤ 4000000000000) (hdat : ∀ f ∈ A.files, f.1.length ≤ 140737488351232) :
    Calls Tryd.prog 19 #[.pointer (some ⟨dd, 0, none⟩), .agg #[.int .i64 n, .slice kp K.length kc]] w fun e w' => ∃ v, e = .returned v ∧ OwnFs w' w.heap.size v (leftP A n K) ∧ Below w.heap.size w w' := by
  obtain ⟨S, h, rfl⟩ := h
  rw [(abs_len S).2.1] at hpl
  rw [(abs_len S).2.2.2] at hsl
  obtain ⟨wa, hwa⟩ : ∃ W0, W0 = w.alloc (.cells #[.int .i64 n, .slice kp K.length kc] 29) := ⟨_, rfl⟩
  have hba : Below w.heap.size w wa := by rw [hwa]; exact (Below.refl _ w).alloc (Nat.le_refl _) _
  have hfa : wa.heap[w.heap.size]? = some (.cells #[.int .i64 n, .slice kp K.length kc] 29 (0, 0)) := by rw [hwa]; exact heap_alloc_new w _
  have ha := h.below hba
  have c1 : wa.cell? ⟨dd, 1, none⟩ = some (.map (some S.bs)) := ha.cell 1
  have hcl := cloneF_any ha.safe
  have hsza : wa.heap.size = w.heap.size + 1 := by rw [hwa]; simp
  have HA := Lib.hid (And.intro hba (And.intro hfa hsza))
  rw [hwa] at c1 hcl
  have HWA := Lib.hid hwa
  clear hwa hba hfa ha hsza
  go_enter Tryd.func19, Tryd.ntmps19
  go_wp2_with fail
  refine hcl.mono ?_
  rw [← HWA.out]
  rintro e w1 ⟨rfl, hm1, hb1⟩
  clear hcl
  obtain ⟨hba, hfa, hsza⟩ := HA.out
  have hB1 : Below w.heap.size w w1 := hba.trans (hb1.mono (by omega))
  have h1 := h.below hB1
  have c2 : w1.cell? ⟨dd, 2, none⟩ = some S.pv := h1.cell 2
  obtain ⟨pp, pc, hpv⟩ := h1.pvForm
  rw [hpv] at c2
  have hf1 : w1.heap[w.heap.size]? = some (.cells #[.int .i64 n, .slice kp K.length kc] 29 (0, 0)) := (hb1.block _ (lt_of_heap hfa)).trans hfa
  have hs1 : w.heap.size + 2 ≤ w1.heap.size := by have := hm1.lt; omega
  have HS1 := Lib.hid hs1
  have HPV := Lib.hid hpv
  have HSZ := Lib.hid hsza
  clear hba hfa hsza hpv hs1
  go_wp2_with fail
  go_loopw [23] (fun i wr => ∃ k : Nat, k ≤ S.pend.length ∧ i = .int .i64 k ∧ OwnN wr wa.heap.size (stN S n k) ∧ Below w.heap.size w wr ∧ wr.heap[w.heap.size]? = some (.cells #[.int .i64 n, .slice kp K.length kc] 29 (0, 0))) (fun i _ => S.pend.length - (intOf i).toNat)
  case atStart => exact ⟨0, Nat.zero_le _, rfl, by rw [stN_zero]; exact hm1, hB1, hf1⟩
  case round =>
    obtain ⟨k, hk, rfl, hm, hb, hf⟩ := hrel
    have hr := h.below hb
    have cf : wr.cell? ⟨w.heap.size, 0, none⟩ = some (.int .i64 n) := by rw [cell_of_row _ _ _ _ _ _ hf]; rfl
    have HF := Lib.hid (And.intro hf hm1)
    clear hf1 hf hm1 c2
    by_cases hlt : k < S.pend.length
    · have hlen : S.pvals.length = S.pend.length := by have := hr.row.1; omega
      obtain ⟨q0, c0, hq0, _, _, hin, _⟩ := owns_shape hr.row
      rw [HPV.out] at hq0
      injection hq0 with hq0 _ hq2
      subst hq0
      subst hq2
      obtain ⟨b, o, rfl, hc⟩ := hin.at (k := k) (by omega)
      have hck := hc k (by omega)
      obtain ⟨hch, hcf⟩ := hr.chg k S.pvals[k] S.pend[k] (List.getElem?_eq_getElem (by omega)) (List.getElem?_eq_getElem hlt)
      have hget : S.pend[k]? = some S.pend[k] := List.getElem?_eq_getElem hlt
      generalize S.pend[k] = cc at hch hcf hget
      generalize S.pvals[k] = vv at hck hch
      obtain ⟨g, cap, hv, hcall⟩ := chg_call hm hch (by have := stN_length S n k; unfold maxLen; omega)
      subst hv
      have hent := chg_enter hch
      have HG := Lib.hid hget
      clear hc hin hch hcf hget
      by_cases hn : (k : Int) < n
      · have HN := Lib.hid hn
        go_wp2_with fail
        refine hcall.mono ?_
        rintro e w2 ⟨rfl, hm2, hg2, hsz2⟩
        clear hcall hent
        go_wp2_with fail
        have hba := HA.out.2.2
        have hgl := hb.grown hg2 (by have := hm.lt; omega) (fun j e => by injection e with e; omega)
        go_roundw
        case rel => exact ⟨k + 1, by omega, by go_num, by rw [stN_step S n k cc HG.out HN.out]; exact hm2, hgl, (hg2.block _ (lt_of_heap HF.out.1) (fun e => by injection e with e; omega)).trans HF.out.1⟩
        case measure => simp [intOf]; omega
      · have HN := Lib.hid hn
        have hn2 : decide ((k : Int) < n) = false := decide_eq_false hn
        go_wp2_with fail
        go_roundw
        case rel => exact ⟨k + 1, by omega, by go_num, by rw [stN_skip S n k HN.out]; exact hm, hb, HF.out.1⟩
        case measure => simp [intOf]; omega
    · obtain rfl : k = S.pend.length := by omega
      have hML := stN_length S n S.pend.length
      have hMN := stN_end S n
      have hMF := stN_file hr n S.pend.length
      have hkeys := keysF_any (some wa.heap.size) wr
      have hso := sortedF_any wr hm (by omega)
      generalize stN S n S.pend.length = M at hm hML hMN hMF hso
      have HMN := Lib.hid (And.intro hMN hMF)
      clear hMN hMF
      go_wp2_with fail
      refine hkeys.mono ?_
      rintro e w2 ⟨rfl, rfl⟩
      clear hkeys
      go_wp2_with fail
      refine hso.mono ?_
      rintro e w3 ⟨v, rfl, hown, hb3⟩
      clear hso
      have hB3 : Below w.heap.size w w3 := hb.trans (hb3.mono hb.size)
      have hm3 := hm.below hb3
      have hf3 := (hb3.block _ (lt_of_heap HF.out.1)).trans HF.out.1
      obtain ⟨pv, cv, rfl, _, _, hin3, _⟩ := hown.shape (n := M.length) (by simp)
      have HM := Lib.hid (And.intro hB3 (And.intro hm3 (And.intro hf3 hin3)))
      clear hm hown hb3 hm3 hf3 hin3 hB3 hb hr cf c1
      obtain ⟨wo, hwo⟩ : ∃ x, x = wr := ⟨_, rfl⟩
      subst hwo
      go_wp2_with fail
      go_loopw [8, 40] (fun vo i wr => ∃ k : Nat, k ≤ M.length ∧ i = .int .i64 k ∧ OwnFs wr w3.heap.size vo ((leftP (absD S) n K).take k) ∧ Below w3.heap.size w3 wr) (fun _ i _ => M.length - (intOf i).toNat)
      case atStart => exact ⟨0, Nat.zero_le _, rfl, by rw [List.take_zero]; exact OwnFs.nil _ _, Below.refl _ _⟩
      case round =>
        obtain ⟨k, hk, rfl, hown, hb⟩ := hrel
        by_cases hlt : k < M.length
        · obtain ⟨hB3, hm3, hf3, hin3⟩ := HM.out
          have hbr := hB3.trans (hb.mono hB3.size)
          have hr := h.below hbr
          have hmr := hm3.below hb
          have hfr := (hb.block _ (lt_of_heap hf3)).trans hf3
          obtain ⟨b, o, rfl, x, hcx, hx⟩ := (hin3.below hb).at (k := k) (by simpa using hlt)
          rw [List.getElem_map] at hx
          have hlk : lookN M x.data.toList = some M[k].2 := by rw [hx]; exact lookN_of_mem hm3.1 (List.getElem_mem hlt)
          have hxs : x.size ≤ maxLen := by
            have hmem : (M[k].1, noF S.files M[k].2) ∈ leftNP (absD S) n := by
              rw [← HMN.out.1]
              exact List.mem_map.2 ⟨M[k], List.getElem_mem hlt, rfl⟩
            have := good_len (leftN_good hinv n _ hmem)
            simp only at this
            rw [← hx, size_list] at this
            unfold maxLen
            omega
          have hrun := run_lookF hmr x hxs
          rw [hlk] at hrun
          unfold fileV at hrun
          obtain ⟨f, hfm, hfg⟩ := HMN.out.2 M[k] (List.getElem_mem hlt)
          obtain ⟨no, hno, eno⟩ := List.getElem_of_mem hfm
          have hfi : S.files[no]? = some f := by rw [List.getElem?_eq_getElem hno, eno]
          have hat := left_at (K := K) HMN.out.1 hlt h.apart hfi hfg
          obtain ⟨b1, b2, b3, b4, b5⟩ := hr.files no f hfi
          obtain ⟨qf, cq, hval, hc1, hc2, hinf⟩ := b2.in8n rfl
          have hlen : f.data.length ≤ 140737488351232 := hdat (f.data, f.firm) (List.mem_map.2 ⟨f, hfm, rfl⟩)
          rw [hfg] at b1
          have d0 : wr.cell? ⟨M[k].2, 0, none⟩ = some (.int .i64 no) := by rw [cell_of_row _ _ _ _ _ _ b1]; rfl
          have d1 : wr.cell? ⟨M[k].2, 1, none⟩ = some (.slice qf f.data.length cq) := by rw [cell_of_row _ _ _ _ _ _ b1, ← hval]; rfl
          have d2 : wr.cell? ⟨M[k].2, 2, none⟩ = some (.int .i64 f.firm) := by rw [cell_of_row _ _ _ _ _ _ b1]; rfl
          have e1 : wr.cell? ⟨w.heap.size, 1, none⟩ = some (.slice kp K.length kc) := by rw [cell_of_row _ _ _ _ _ _ hfr]; rfl
          obtain ⟨gb, hgb⟩ : ∃ gb, gb = M[k].2 := ⟨_, rfl⟩
          rw [← hgb] at hrun d0 d1 d2
          have HAT := Lib.hid hat
          have HX := Lib.hid hx
          have HIN := Lib.hid hinf
          have hqn : qf = none → cq = 0 := fun e => by
            subst e
            rcases b2.2 with ⟨e, _⟩ | ⟨g', cap, cur, e, _⟩
            · rw [hval] at e; injection e
            · rw [hval] at e; injection e with e; cases e
          have hle : f.firm ≤ f.data.length := b5
          clear hat hx hinf hfm hno eno hfi hr hmr hfr b1 b2 b3 b4 b5 hval hlk hgb hfg hB3 hm3 hf3 hin3
          by_cases hin : no < K.length
          · obtain ⟨kb, ko, rfl, hkc⟩ := hK.at (k := no) (by simpa using hin)
            have hkn := hkc no (by simpa using hin)
            rw [List.getElem_map] at hkn
            have hkn := (hbr.cell (World.block_lt_of_cell? w _ hkn)).trans hkn
            obtain ⟨z, hz⟩ : ∃ z, z = K[no] := ⟨_, rfl⟩
            rw [← hz] at hkn
            obtain ⟨nn, hnn⟩ : ∃ nn, nn = f.firm + moreP K no (f.data.length - f.firm) := ⟨_, rfl⟩
            have hmore : moreP K no (f.data.length - f.firm) = (min z ((f.data.length - f.firm : Nat) : Int)).toNat := by unfold moreP; rw [List.getElem?_eq_getElem hin, ← hz]
            have hnl : nn ≤ f.data.length := by omega
            have HWR := Lib.hid (show (f.firm : Int) + max 0 (min z ((f.data.length : Int) - (f.firm : Int))) = (nn : Int) by omega)
            have HNN := Lib.hid hnn
            clear hkc hz hnn hmore
            go_wp2_with fail
            go_quiet (fail)
            go_wp2_with fail
            go_quiet (fail)
            rename_i nq1
            rw [HWR.out]
            have hbd : Below wr.heap.size wr (wr.drewN (nq1 + nq)) := bdrewN (Below.refl _ wr) _
            have hcl := cloneB_any (f.data.take nn) qf nn cq (by rw [List.length_take]; omega) (by omega) hqn (wr.drewN (nq1 + nq)) ((HIN.out.below hbd).take nn)
            have HBD := Lib.hid hbd
            have HOW := Lib.hid hown
            clear hbd hown
            go_wp2_with fail
            refine hcl.mono ?_
            rintro e w4 ⟨v4, rfl, hown4, hb4⟩
            clear hcl
            have hb34 : Below w3.heap.size w3 w4 := hb.trans ((HBD.out.trans (hb4.mono HBD.out.size)).mono hb.size)
            have hfs4 := (HOW.out.below HBD.out).below hb4
            have hown4' : Own8 w4 w3.heap.size v4 (f.data.take nn) := hown4.mono (Nat.le_trans hb.size HBD.out.size)
            obtain ⟨p4, c4, rfl, _, _, _⟩ := hown4.in8n (n := nn) (by rw [List.length_take]; omega)
            have hfs5 := hfs4.below ((Below.refl _ w4).alloc (Nat.le_refl _) (.cells #[.string x, .slice p4 nn c4] 45))
            have hown5 := hown4'.alloc (.cells #[.string x, .slice p4 nn c4] 45)
            have hine := InE.one w4 x (.slice p4 nn c4) 45
            have HB4 := Lib.hid hb34
            clear hown4 hown4' hb4 hfs4 hb34
            go_wp2_with (
              at_builtin
              refine wpList_appendFs rfl _ _ rfl w3.heap.size _ _ rfl hfs5 w4.heap.size _ x.data.toList (.slice p4 nn c4) (f.data.take nn) rfl hine hown5 (by rw [List.length_take]; omega) (by have := HB4.out.size; simp; omega) ?_
              intro v6 w6 hfs6 hg6
              have hb6 := hfs5.grown (HB4.out.alloc HB4.out.size _) (by have := HB4.out.size; simp; omega) hg6
              clear hg6)
            go_roundw
            case rel => exact ⟨k + 1, by omega, by go_num, by rw [take_snoc_get HAT.out, ← HX.out, ← HNN.out]; exact hfs6, hb6⟩
            case measure => simp [intOf]; omega
          · obtain ⟨nn, hnn⟩ : ∃ nn, nn = f.firm + moreP K no (f.data.length - f.firm) := ⟨_, rfl⟩
            have hmore : moreP K no (f.data.length - f.firm) = 0 := by unfold moreP; rw [List.getElem?_eq_none (by omega)]
            have hnf : nn = f.firm := by omega
            have hnl : nn ≤ f.data.length := by omega
            have HNN := Lib.hid hnn
            rw [← hnf] at d2
            clear hnn hmore hnf
            go_wp2_with fail
            go_quiet (fail)
            have hbd : Below wr.heap.size wr (wr.drewN nq) := bdrewN (Below.refl _ wr) _
            have hcl := cloneB_any (f.data.take nn) qf nn cq (by rw [List.length_take]; omega) (by omega) hqn (wr.drewN nq) ((HIN.out.below hbd).take nn)
            have HBD := Lib.hid hbd
            have HOW := Lib.hid hown
            clear hbd hown
            go_wp2_with fail
            refine hcl.mono ?_
            rintro e w4 ⟨v4, rfl, hown4, hb4⟩
            clear hcl
            have hb34 : Below w3.heap.size w3 w4 := hb.trans ((HBD.out.trans (hb4.mono HBD.out.size)).mono hb.size)
            have hfs4 := (HOW.out.below HBD.out).below hb4
            have hown4' : Own8 w4 w3.heap.size v4 (f.data.take nn) := hown4.mono (Nat.le_trans hb.size HBD.out.size)
            obtain ⟨p4, c4, rfl, _, _, _⟩ := hown4.in8n (n := nn) (by rw [List.length_take]; omega)
            have hfs5 := hfs4.below ((Below.refl _ w4).alloc (Nat.le_refl _) (.cells #[.string x, .slice p4 nn c4] 45))
            have hown5 := hown4'.alloc (.cells #[.string x, .slice p4 nn c4] 45)
            have hine := InE.one w4 x (.slice p4 nn c4) 45
            have HB4 := Lib.hid hb34
            clear hown4 hown4' hb4 hfs4 hb34
            go_wp2_with (
              at_builtin
              refine wpList_appendFs rfl _ _ rfl w3.heap.size _ _ rfl hfs5 w4.heap.size _ x.data.toList (.slice p4 nn c4) (f.data.take nn) rfl hine hown5 (by rw [List.length_take]; omega) (by have := HB4.out.size; simp; omega) ?_
              intro v6 w6 hfs6 hg6
              have hb6 := hfs5.grown (HB4.out.alloc HB4.out.size _) (by have := HB4.out.size; simp; omega) hg6
              clear hg6)
            go_roundw
            case rel => exact ⟨k + 1, by omega, by go_num, by rw [take_snoc_get HAT.out, ← HX.out, ← HNN.out]; exact hfs6, hb6⟩
            case measure => simp [intOf]; omega
        · obtain rfl : k = M.length := by omega
          go_wp2_with fail
          go_ret
          obtain ⟨hB3, hm3, hf3, hin3⟩ := HM.out
          refine ⟨_, rfl, ?_, hB3.trans (hb.mono hB3.size)⟩
          have e : (leftP (absD S) n K).length = M.length := by
            unfold leftP
            rw [← HMN.out.1]
            unfold mapN
            simp
          rw [← e, List.take_length] at hown
          exact hown.mono hB3.size
end Go.Proofs.YtnhfnfdmpcpcoaaDoor

/-
  New: a disk that holds files.
-/
namespace Go.Proofs.YtnhfnfdmpcpcoaaDoor
open Go.RowKit Go.Maps

theorem cloneI_any {w : World} {q : Option Addr} {Z : List Int} {m d : Nat} (hm : Z.length = m) (hl : m ≤ 17592186043904) (h : InV w q (Z.map (Value.int .i64))) :
    Calls Tryd.prog 57 #[.slice q m d] w fun e w' => ∃ v, e = .returned v ∧ w'.ownsRow w.heap.size 3 1 v Z.length (Z.map (Value.int .i64)) ∧ Below w.heap.size w w' := by
  subst hm
  cases q with
  | none =>
    have hz : Z = [] := by
      by_cases h0 : 0 < Z.length
      · obtain ⟨b, o, e, _⟩ := h (by simpa using h0); cases e
      · exact List.eq_nil_of_length_eq_zero (by omega)
    subst hz
    refine (Tryd.slices_Clone_int_nil _ d w).mono ?_
    rintro e w' ⟨rfl, rfl⟩
    exact ⟨_, rfl, World.ownsRow_nil _ _ _ _, Below.refl _ _⟩
  | some a =>
    cases Z with
    | nil =>
      refine (Tryd.slices_Clone_int_zero a d w).mono ?_
      rintro e w' ⟨v, rfl, h1, _, h2⟩
      exact ⟨_, rfl, h1, h2⟩
    | cons z r =>
      obtain ⟨b, o, e, hc⟩ := h (by simp)
      injection e with e
      subst e
      refine (Tryd.slices_Clone_int b o (z :: r).length d (z :: r) w (Nat.le_refl _) (by omega) (fun j hj => by
        rw [hc j (by simpa using hj), List.getElem_map, List.getD_eq_getElem?_getD, List.getElem?_eq_getElem hj]; rfl)).mono ?_
      rintro e w' ⟨v, rfl, h1, _, h2⟩
      rw [List.take_length] at h1
      exact ⟨_, rfl, h1, h2⟩

theorem lessN (a b : ByteArray) : Op.bytesLess a.toList b.toList = decide (a.data.toList < b.data.toList) := by
  rw [bytesLess_eq, Lib.toList_data, Lib.toList_data]
theorem rowKeep {w w' : World} {base e size n : Nat} {v : Value} {xs : List Value} (h : w.ownsRow base e size v n xs) (hk : ∀ g cur, v.ownBlock = some g → w.heap[g]? = some (.cells cur e (0, 0)) → w'.heap[g]? = w.heap[g]?) : w'.ownsRow base e size v n xs := by
  refine ⟨h.1, ?_⟩
  rcases h.2 with h0 | ⟨g, cap, cur, e, c1, c2, r⟩
  · exact .inl h0
  · exact .inr ⟨g, cap, cur, e, c1, (hk g cur (by rw [e]; rfl) c2).trans c2, r⟩
/-- the name ahead of number k -/
def lastN (F : List FT) : Nat → BS
  | 0 => []
  | k + 1 => (F[k]?.map (·.1)).getD []

set_option maxRecDepth 100000 in
set_option maxHeartbeats 4000000 in
theorem new_p (F : List FT) (p : Option Addr) (n c : Nat) (hn : F.length = n) (room : Int) (Z : List Int) (q : Option Addr) (m d : Nat) (hm : Z.length = m) (power : Int) (w : World) (hF : InFs w p F) (hZ : InV w q (Z.map (Value.int .i64))) (hFl : F.length ≤ 4000000000000) (hFn : ∀ f ∈ F, f.1.length ≤ 140737488351232 ∧ f.2.length ≤ 140737488351232) (hZl : Z.length ≤ 4000000000000) :
    Calls Tryd.prog 34 #[.slice p n c, .int .i64 room, .slice q m d, .int .i64 power] w fun e w' =>
      (newE F room ≠ 0 ∧ e = .returned (.tuple #[.pointer none, .int .i64 (newE F room)]) ∨ newE F room = 0 ∧ ∃ dd P, e = .returned (.tuple #[.pointer (some ⟨dd, 0, none⟩), .int .i64 0]) ∧ DiskP w' P dd (newP F room Z power) ∧ ∀ g, P g → w.heap.size ≤ g) ∧ Below w.heap.size w w' := by
  subst hn
  subst hm
  by_cases hroom : room < 0 ∨ 1073741824 < room
  · have HE := Lib.hid (show newE F room = 131 by unfold newE; rw [if_pos hroom])
    by_cases h0 : room < 0
    · have h1 : decide (room < 0) = true := decide_eq_true h0
      clear hroom
      go_enter Tryd.func34, Tryd.ntmps34
      go_wp2_with fail
      go_ret2
      exact ⟨.inl ⟨by rw [HE.out]; decide, by rw [HE.out]; rfl⟩, Below.refl _ _⟩
    · have h1 : decide (room < 0) = false := decide_eq_false h0
      have h2 : decide (1073741824 < room) = true := decide_eq_true (by omega)
      clear hroom
      go_enter Tryd.func34, Tryd.ntmps34
      go_wp2_with fail
      go_ret2
      exact ⟨.inl ⟨by rw [HE.out]; decide, by rw [HE.out]; rfl⟩, Below.refl _ _⟩
  · have hmk : ∀ W : World, (Instr.makeMap 76 none).run Tryd.prog W = .ok (.map (some W.heap.size)) (W.alloc (.map #[] 0)) := fun _ => rfl
    have h1 : decide (room < 0) = false := decide_eq_false (by omega)
    have h2 : decide (1073741824 < room) = false := decide_eq_false (by omega)
    have HE0 := Lib.hid (show okF F → newE F room = 0 from fun h => by unfold newE; rw [if_neg hroom, if_pos h])
    have HE1 := Lib.hid (show ¬ okF F → newE F room = 95 from fun h => by unfold newE; rw [if_neg hroom, if_neg h])
    have hr0 : 0 ≤ room := by omega
    obtain ⟨wa, hwa⟩ : ∃ W0, W0 = w.alloc (.map #[] 0) := ⟨_, rfl⟩
    have hba : Below w.heap.size w wa := by rw [hwa]; exact (Below.refl _ w).alloc (Nat.le_refl _) _
    have hmade : OwnN wa w.heap.size [] := by rw [hwa]; exact OwnN.made w
    have hsz : wa.heap.size = w.heap.size + 1 := by rw [hwa]; simp
    have hcl := cloneI_any (d := d) rfl (by omega) (hZ.below hba)
    rw [hwa] at hcl
    have HWA := Lib.hid (And.intro hwa (And.intro hba (And.intro hmade hsz)))
    clear hwa hba hmade hsz hroom
    go_enter Tryd.func34, Tryd.ntmps34
    go_wp2_with fail
    refine hcl.mono ?_
    rw [← HWA.out.1]
    rintro e w1 ⟨fv, rfl, hrow, hb1⟩
    clear hcl
    obtain ⟨fp, fc, hfv, _, _, _, _⟩ := owns_shape hrow
    rw [hfv]
    obtain ⟨hwa, hba, hmade, hsz⟩ := HWA.out
    obtain ⟨w2, hw2⟩ : ∃ W0, W0 = w1.alloc (.cells #[.map (some w.heap.size), .map none, .slice none 0 0, .int .i64 0, .int .i64 room, .slice fp Z.length fc, .int .i64 power, .int .i64 0] 79) := ⟨_, rfl⟩
    have hb2 : Below w1.heap.size w1 w2 := by rw [hw2]; exact (Below.refl _ w1).alloc (Nat.le_refl _) _
    have hB2 : Below w.heap.size w w2 := hba.trans (hb1.trans (hb2.mono hb1.size) |>.mono (by omega))
    have hsz2 : w2.heap.size = w1.heap.size + 1 := by rw [hw2]; simp
    have hszl : w.heap.size < w1.heap.size := by have := hb1.size; omega
    have hrow2 : w2.ownsRow w.heap.size 3 1 fv Z.length (Z.map (Value.int .i64)) := ownsRow_below (ownsRow_mono hrow (by omega)) hb2
    have hmap2 : OwnN w2 w.heap.size [] := (hmade.below hb1).below hb2
    have hdd2 : w2.heap[w1.heap.size]? = some (.cells #[.map (some w.heap.size), .map none, .slice none 0 0, .int .i64 0, .int .i64 room, .slice fp Z.length fc, .int .i64 power, .int .i64 0] 79 (0, 0)) := by rw [hw2]; exact heap_alloc_new w1 _
    have hna : NewAt w2 F 0 w1.heap.size w.heap.size room fv power (fun g => w.heap.size ≤ g ∧ fv.ownBlock ≠ some g) [] := by
      refine ⟨by rw [hfv]; exact hdd2, by unfold zipN; simpa using hmap2, rfl, Nat.zero_le _, fun i f hf => by simp at hf, List.Pairwise.nil, ⟨fun f hf => by simp at hf, by simp⟩⟩
    have hflt : ∀ g, fv.ownBlock = some g → g < w1.heap.size := fun g hg => (World.ownsRow.lt hrow g hg).2
    have HW2 := Lib.hid hw2
    have HI := Lib.hid (And.intro hna (And.intro hrow2 (And.intro hB2 hflt)))
    have HFV := Lib.hid hfv
    have HSZ := Lib.hid (And.intro hsz2 hszl)
    clear hwa hba hmade hsz hb1 hb2 hsz2 hrow hrow2 hmap2 hdd2 hna hflt hw2 hfv hB2 hszl
    go_wp2_with fail
    rw [← HW2.out]
    go_loopw [11, 29] (fun lv i wr => ∃ (k : Nat) (G : List FileC) (lb : ByteArray), k ≤ F.length ∧ i = .int .i64 k ∧ lv = .string lb ∧ lb.data.toList = lastN F k ∧ NewAt wr F k w1.heap.size w.heap.size room fv power (fun g => w.heap.size ≤ g ∧ fv.ownBlock ≠ some g) G ∧ wr.ownsRow w.heap.size 3 1 fv Z.length (Z.map (Value.int .i64)) ∧ Below w.heap.size w wr ∧ w2.heap.size ≤ wr.heap.size) (fun _ i _ => F.length - (intOf i).toNat)
    case atStart =>
      obtain ⟨h1, h2, h3, _⟩ := HI.out
      exact ⟨0, [], ⟨#[]⟩, Nat.zero_le _, rfl, rfl, rfl, h1, h2, h3, Nat.le_refl _⟩
    case round =>
      obtain ⟨k, G, lb, hk, rfl, rfl, hlb, hna, hrow, hb, hsw⟩ := hrel
      have HK := Lib.hid (And.intro hna (And.intro hrow (And.intro hb hsw)))
      have HLB := Lib.hid hlb
      clear hlb hna hrow hsw
      by_cases hlt : k < F.length
      · obtain ⟨b, o, rfl, x, q0, c0, hcx, hcd, hx, hqc, hdl, hind⟩ := (hF.below hb).at hlt
        obtain ⟨l, hl⟩ : ∃ l, l = F[k].2 := ⟨_, rfl⟩
        rw [← hl] at hcd hdl hind
        have hbd := hFn F[k] (List.getElem_mem hlt)
        have hxs : x.size ≤ 140737488351232 := by rw [← size_list, hx]; exact hbd.1
        have hll : l.length ≤ 140737488351232 := by rw [hl]; exact hbd.2
        have HX := Lib.hid (And.intro hx hl)
        have HB := Lib.hid hb
        clear hx hl hbd hb
        obtain ⟨wf, hwf⟩ : ∃ W0, W0 = wr.alloc (.cells #[.string x, .slice q0 l.length c0] 45) := ⟨_, rfl⟩
        have hbf : Below wr.heap.size wr wf := by rw [hwf]; exact (Below.refl _ wr).alloc (Nat.le_refl _) _
        have hff : wf.heap[wr.heap.size]? = some (.cells #[.string x, .slice q0 l.length c0] 45 (0, 0)) := by rw [hwf]; exact heap_alloc_new wr _
        have hindf := hind.below hbf
        have cf0 : wf.cell? ⟨wr.heap.size, 0, none⟩ = some (.string x) := by rw [cell_of_row _ _ _ _ _ _ hff]; rfl
        have hgood := good_any x wf hxs
        rw [hwf] at hgood cf0
        have HWF := Lib.hid (And.intro hwf (And.intro hbf (And.intro hff hindf)))
        clear hwf hbf hff hind hindf
        obtain ⟨gd, hgd⟩ : ∃ gd, gd = goodN x.data.toList := ⟨_, rfl⟩
        rw [← hgd] at hgood
        have HGD := Lib.hid hgd
        clear hgd
        go_wp2_with fail
        refine hgood.mono ?_
        rw [← HWF.out.1]
        rintro e w3 ⟨rfl, hb3⟩
        clear hgood cf0
        cases gd with
        | false =>
          go_wp2_with fail
          go_ret2
          have hno : ¬ okF F := okF_bad (List.getElem?_eq_getElem hlt) (.inl (by unfold badN; rw [← HX.out.1, ← HGD.out]; rfl))
          exact ⟨.inl ⟨by rw [HE1.out hno]; decide, by rw [HE1.out hno]; rfl⟩, HB.out.trans ((HWF.out.2.1.trans (hb3.mono HWF.out.2.1.size)).mono HB.out.size)⟩
        | true =>
          have cf0 : w3.cell? ⟨wr.heap.size, 0, none⟩ = some (.string x) := by rw [cell_of_row _ _ _ _ _ _ ((hb3.block _ (lt_of_heap HWF.out.2.2.1)).trans HWF.out.2.2.1)]; rfl
          have cf1 : w3.cell? ⟨wr.heap.size, 1, none⟩ = some (.slice q0 l.length c0) := by rw [cell_of_row _ _ _ _ _ _ ((hb3.block _ (lt_of_heap HWF.out.2.2.1)).trans HWF.out.2.2.1)]; rfl
          by_cases hlast : lb.data.toList < x.data.toList
          · have q1 : Op.bytesLess x.toList lb.toList = false := by rw [lessN]; exact decide_eq_false (fun e => absurd (List.lt_trans hlast e) (List.lt_irrefl _))
            have q2 : (x.toList == lb.toList) = false := by rw [strs_eq]; exact decide_eq_false (fun e => by rw [e] at hlast; exact absurd hlast (List.lt_irrefl _))
            have HLAST := Lib.hid hlast
            have hb03 : Below wr.heap.size wr w3 := HWF.out.2.1.trans (hb3.mono HWF.out.2.1.size)
            have hna := HK.out.1
            have hdd3 := (hb03.block _ (lt_of_heap hna.blk)).trans hna.blk
            have cd0 : w3.cell? ⟨w1.heap.size, 0, none⟩ = some (.map (some w.heap.size)) := by rw [cell_of_row _ _ _ _ _ _ hdd3]; rfl
            have cd3 : w3.cell? ⟨w1.heap.size, 3, none⟩ = some (.int .i64 k) := by rw [cell_of_row _ _ _ _ _ _ hdd3]; rfl
            obtain ⟨S, hS⟩ : ∃ S : World → Prop, S = fun W => W.cell? ⟨w1.heap.size, 0, none⟩ = some (.map (some w.heap.size)) ∧ W.cell? ⟨w1.heap.size, 3, none⟩ = some (.int .i64 k) ∧ W.cell? ⟨wr.heap.size, 0, none⟩ = some (.string x) ∧ W.cell? ⟨wr.heap.size, 1, none⟩ = some (.slice q0 l.length c0) := ⟨_, rfl⟩
            have HSS := Lib.hid (fun W => show S W ↔ W.cell? ⟨w1.heap.size, 0, none⟩ = some (.map (some w.heap.size)) ∧ W.cell? ⟨w1.heap.size, 3, none⟩ = some (.int .i64 k) ∧ W.cell? ⟨wr.heap.size, 0, none⟩ = some (.string x) ∧ W.cell? ⟨wr.heap.size, 1, none⟩ = some (.slice q0 l.length c0) by rw [hS])
            have step : ∀ W W', S W → (∀ a : Addr, a.block = w1.heap.size ∨ a.block = wr.heap.size → W'.cell? a = W.cell? a) → S W' := by
              intro W W' h1 hb
              rw [hS] at h1 ⊢
              obtain ⟨h0, h1, h2, h3⟩ := h1
              exact ⟨(hb _ (.inl rfl)).trans h0, (hb _ (.inl rfl)).trans h1, (hb _ (.inr rfl)).trans h2, (hb _ (.inr rfl)).trans h3⟩
            have hS0 : S w3.drew := by
              rw [hS]
              exact ⟨cd0, cd3, cf0, cf1⟩
            have HK0 := Lib.hid hS0
            have hind3 : In8 w3 q0 l := HWF.out.2.2.2.below hb3
            have hlt1 := lt_of_heap hna.blk
            have hszr : wr.heap.size < w3.heap.size := by have := lt_of_heap HWF.out.2.2.1; have := hb3.size; omega
            have hbnlt := hna.now.lt
            have hbnd := map_ne hna.now hna.blk
            have HCL := Lib.hid (show Calls Tryd.prog 48 #[.slice q0 l.length c0] w3.drew fun e w' => ∃ qv cv, e = .returned (.slice qv l.length cv) ∧ Own8 w' w3.heap.size (.slice qv l.length cv) l ∧ Below w3.heap.size w3 w' ∧ S w' ∧ ∃ w5, (Instr.mapUpdate 76 (.map (some w.heap.size)) (.string x) (.pointer (some ⟨w'.heap.size, 0, none⟩))).run Tryd.prog (w'.alloc (.cells #[.int .i64 k, .slice qv l.length cv, .int .i64 l.length] 81)) = .ok () w5 ∧ OwnN w5 w.heap.size (insN x.data.toList w'.heap.size (zipN (F.take k) G)) ∧ (w'.alloc (.cells #[.int .i64 k, .slice qv l.length cv, .int .i64 l.length] 81)).grownBy w5 (some w.heap.size) ∧ S w5 ∧ S (w'.alloc (.cells #[.int .i64 k, .slice qv l.length cv, .int .i64 l.length] 81)) from
              (cloneB_any l q0 _ c0 rfl (by omega) hqc w3.drew (hind3.below ((Below.refl _ w3).drew))).mono fun _ w' ⟨v, h1, h2, h3⟩ => by
                obtain ⟨qv, cv, rfl, _, _, _⟩ := h2.in8n rfl
                have hb4 : Below w3.heap.size w3 w' := ((Below.refl _ w3).drew).trans h3
                have hSw : S w' := step _ _ hS0 (fun a ha => h3.cell (by show a.block < w3.heap.size; have := hb03.size; rcases ha with e | e <;> omega))
                obtain ⟨w5, r1, r2, r3, _⟩ := run_putF ((hna.now.below hb03).below (hb4.alloc hb4.size (.cells #[.int .i64 k, .slice qv l.length cv, .int .i64 l.length] 81))) x w'.heap.size (by unfold maxLen; omega) (by unfold zipN maxLen; rw [List.length_zipWith, List.length_take]; omega)
                refine ⟨qv, cv, h1, h2, hb4, hSw, w5, r1, r2, r3, step _ _ hSw fun a ha => ?_, step _ _ hSw fun a ha => Below.cell ((Below.refl w'.heap.size w').alloc (Nat.le_refl _) _) (by show a.block < w'.heap.size; have := hb03.size; have := hb4.size; rcases ha with e | e <;> omega)⟩
                have e1 : a.block < w'.heap.size := by have := hb03.size; have := hb4.size; rcases ha with e | e <;> omega
                have e2 := r3.block a.block (by simp; omega) (fun e => by injection e with e; rcases ha with e' | e' <;> omega)
                have e3 := heap_alloc_old w' (.cells #[.int .i64 k, .slice qv l.length cv, .int .i64 l.length] 81) e1
                simp only [World.cell?, e2, e3])
            have HNA := Lib.hid hna
            have HB03 := Lib.hid hb03
            clear step hS hS0 hind3 hdd3 hlast cd0 cd3 hna hb03 hlt1 hszr hbnlt hbnd
            go_wp2_with fail
            go_region_held3 (fun W => W.cell? ⟨w1.heap.size, 0, none⟩ = some (.map (some w.heap.size)) ∧ W.cell? ⟨w1.heap.size, 3, none⟩ = some (.int .i64 k) ∧ W.cell? ⟨wr.heap.size, 0, none⟩ = some (.string x) ∧ W.cell? ⟨wr.heap.size, 1, none⟩ = some (.slice q0 l.length c0))
              (first | (with_reducible exact (HSS.out _).1 HK0.out) | (with_reducible exact (HSS.out _).1 HK1.out) | (with_reducible exact (HSS.out _).1 HK2.out) | (with_reducible exact (HSS.out _).1 HK3.out))
              (first
                | (go_at_call 48; with_reducible refine HCL.out.mono ?_; rintro e w4 ⟨qv, cv, rfl, hown, hb4, hk1, w5, hr5, hm5, hg5, hk2, hk3⟩; have HOW := Lib.hid (And.intro hown (And.intro hb4 (And.intro hm5 hg5))); have HK1 := Lib.hid hk1; have HK2 := Lib.hid hk2; have HK3 := Lib.hid hk3; clear hk1 hk2 hk3 hown hb4 hm5 hg5))
            all_goals
              obtain ⟨hown, hb4, hm5, hg5⟩ := HOW.out
              have hna := HNA.out
              have hb03 := HB03.out
              have hbW : Below wr.heap.size wr (w4.alloc (.cells #[.int .i64 k, .slice qv l.length cv, .int .i64 l.length] 81)) := (hb03.trans (hb4.mono hb03.size)).alloc (by have := hb03.size; have := hb4.size; omega) _
              have hbnd := map_ne hna.now hna.blk
              have hdd5 := ((hg5.block _ (Nat.lt_of_lt_of_le (lt_of_heap hna.blk) hbW.size) (fun e => by injection e with e; exact hbnd e.symm)).trans (hbW.block _ (lt_of_heap hna.blk))).trans hna.blk
              have f5 := frozen_of_row w5 w1.heap.size 3 _ _ hdd5
              have c53 : w5.cell? ⟨w1.heap.size, 3, none⟩ = some (.int .i64 k) := by rw [cell_of_row _ _ _ _ _ _ hdd5]; rfl
              have HG := Lib.hid (And.intro hbW (And.intro hbnd (And.intro hb03 hg5)))
              clear hown hb4 hm5 hg5 hna hb03 hbW hbnd hdd5
              go_wp2_with fail
              obtain ⟨hown, hb4, hm5, _⟩ := HOW.out
              obtain ⟨hbW, hbnd, hb03, hg5⟩ := HG.out
              have hna := HNA.out
              obtain ⟨_, hrow, hb, hsw⟩ := HK.out
              obtain ⟨hx, hl⟩ := HX.out
              obtain ⟨w6, hw6⟩ : ∃ W0, W0 = w5.setCell ⟨w1.heap.size, 3, none⟩ (.int .i64 ((k : Int) + 1)) := ⟨_, rfl⟩
              have hxk : F[k]? = some F[k] := List.getElem?_eq_getElem hlt
              obtain ⟨hok, hall⟩ := okF_snoc hxk hna.ok (by rw [← hx]; unfold badN; rw [← HGD.out]; rfl) (fun y h0 hy => by
                have hl2 := HLAST.out
                rw [HLB.out, hx] at hl2
                cases k with
                | zero => omega
                | succ k' =>
                  have e : lastN F (k' + 1) = y.1 := by
                    show ((F[k']?).map (·.1)).getD [] = _
                    have : F[k']? = some y := hy
                    rw [this]; rfl
                  rw [e] at hl2
                  exact hl2)
              have hP : ∀ g, wr.heap.size ≤ g → w.heap.size ≤ g ∧ fv.ownBlock ≠ some g := fun g hg => ⟨Nat.le_trans hb.size hg, fun e => by
                have h1 := HI.out.2.2.2 g e
                have h2 := HSZ.out.1
                omega⟩
              rw [hx] at hm5
              rw [hl] at hown
              have hst := hna.step hxk hbW (g0 := w4.heap.size) (by have := hb03.size; have := hb4.size; omega) (by rw [← hl]; exact heap_alloc_new w4 _) ((hown.mono hb03.size).alloc _) hg5 hm5 hw6 hP hok hall
              have keep6 : ∀ g, g < wr.heap.size → g ≠ w.heap.size → g ≠ w1.heap.size → w6.heap[g]? = wr.heap[g]? := fun g h1 h2 h3 => by
                rw [hw6]
                exact ((Below.heap_setCell _ _ _ _ h3).trans (hg5.block g (Nat.lt_of_lt_of_le h1 hbW.size) (fun e => h2 (by injection e)))).trans (hbW.block g h1)
              have hsz6 : wr.heap.size ≤ w6.heap.size := by have h1 := hg5.size; have h2 := hbW.size; rw [hw6]; simp only [World.setCell]; simp only [Array.size_modify]; omega
              have hrow6 := rowKeep (w' := w6) hrow (fun g cur _ hc => keep6 g (lt_of_heap hc) (fun e => map_ne hna.now hc e.symm) (blk_ne hc hna.blk (by decide)))
              have hszl := HSZ.out.2
              have hb6 : Below w.heap.size w w6 := by
                refine ⟨?_, ?_, ?_, Nat.le_trans hb.size hsz6, fun g hg => ?_⟩
                · rw [hw6]; exact hg5.os.trans (hbW.os.trans hb.os)
                · rw [hw6]; exact hg5.tape.trans (hbW.tape.trans hb.tape)
                · rw [hw6]; exact hg5.output.trans (hbW.output.trans hb.output)
                · exact (keep6 g (Nat.lt_of_lt_of_le hg hb.size) (by omega) (by omega)).trans (hb.block g hg)
              rw [← hw6]
              go_roundw
              case rel => exact ⟨k + 1, _, x, by omega, by go_num, rfl, by rw [hx]; show _ = ((F[k]?).map (·.1)).getD []; rw [hxk]; rfl, hst, hrow6, hb6, Nat.le_trans hsw hsz6⟩
              case measure => simp [intOf]; omega
          · have HLAST := Lib.hid hlast
            by_cases heq : x.data.toList = lb.data.toList
            · have q2 : (x.toList == lb.toList) = true := by rw [strs_eq]; exact decide_eq_true heq
              have q3 : (Op.bytesLess x.toList lb.toList || true) = true := Bool.or_true _
              clear heq hlast
              go_wp2_with fail
              go_ret2
              have hno : ¬ okF F := by
                have hxk : F[k]? = some F[k] := List.getElem?_eq_getElem hlt
                have hn := HLAST.out
                rw [HLB.out, HX.out.1] at hn
                cases k with
                | zero =>
                  exfalso
                  have e : F[0].1 = [] := by
                    cases hc : F[0].1 with
                    | nil => rfl
                    | cons y r => rw [hc] at hn; exact absurd (List.nil_lt_cons y r) hn
                  have := HGD.out
                  rw [HX.out.1, e] at this
                  exact absurd this (by decide)
                | succ k' =>
                  refine okF_bad hxk (.inr ⟨F[k'], by omega, List.getElem?_eq_getElem (by omega), ?_⟩)
                  have e : lastN F (k' + 1) = F[k'].1 := by
                    show ((F[k']?).map (·.1)).getD [] = _
                    rw [List.getElem?_eq_getElem (by omega)]; rfl
                  rw [e] at hn
                  exact hn
              exact ⟨.inl ⟨by rw [HE1.out hno]; decide, by rw [HE1.out hno]; rfl⟩, HB.out.trans ((HWF.out.2.1.trans (hb3.mono HWF.out.2.1.size)).mono HB.out.size)⟩
            · have q1 : Op.bytesLess x.toList lb.toList = true := by rw [lessN]; exact decide_eq_true (lt_of_le_ne (List.not_lt.1 hlast) (fun e => heq e.symm))
              clear heq hlast
              go_wp2_with fail
              go_ret2
              have hno : ¬ okF F := by
                have hxk : F[k]? = some F[k] := List.getElem?_eq_getElem hlt
                have hn := HLAST.out
                rw [HLB.out, HX.out.1] at hn
                cases k with
                | zero =>
                  exfalso
                  have e : F[0].1 = [] := by
                    cases hc : F[0].1 with
                    | nil => rfl
                    | cons y r => rw [hc] at hn; exact absurd (List.nil_lt_cons y r) hn
                  have := HGD.out
                  rw [HX.out.1, e] at this
                  exact absurd this (by decide)
                | succ k' =>
                  refine okF_bad hxk (.inr ⟨F[k'], by omega, List.getElem?_eq_getElem (by omega), ?_⟩)
                  have e : lastN F (k' + 1) = F[k'].1 := by
                    show ((F[k']?).map (·.1)).getD [] = _
                    rw [List.getElem?_eq_getElem (by omega)]; rfl
                  rw [e] at hn
                  exact hn
              exact ⟨.inl ⟨by rw [HE1.out hno]; decide, by rw [HE1.out hno]; rfl⟩, HB.out.trans ((HWF.out.2.1.trans (hb3.mono HWF.out.2.1.size)).mono HB.out.size)⟩
      · obtain rfl : k = F.length := by omega
        obtain ⟨hna, hrow, hb, hsw⟩ := HK.out
        have hnow := hna.now
        rw [List.take_length] at hnow
        have c0 : wr.cell? ⟨w1.heap.size, 0, none⟩ = some (.map (some w.heap.size)) := by rw [cell_of_row _ _ _ _ _ _ hna.blk]; rfl
        have hcl := cloneF_any hnow
        clear hna hrow hb hsw hnow
        go_wp2_with fail
        refine hcl.mono ?_
        rintro e w3 ⟨rfl, hm3, hb3⟩
        clear hcl
        have hdd3 := (hb3.block _ (lt_of_heap HK.out.1.blk)).trans HK.out.1.blk
        have f3 := frozen_of_row w3 w1.heap.size 1 _ _ hdd3
        have c1 : w3.cell? ⟨w1.heap.size, 1, none⟩ = some (.map none) := by rw [cell_of_row _ _ _ _ _ _ hdd3]; rfl
        have HM := Lib.hid (And.intro hm3 (And.intro hb3 hdd3))
        clear hm3 hb3 hdd3
        go_wp2_with fail
        go_ret2
        obtain ⟨hna, hrow, hb, hsw⟩ := HK.out
        obtain ⟨hm3, hb3, _⟩ := HM.out
        have hok : okF F := by have := hna.ok; rwa [List.take_length] at this
        have hszl := HSZ.out.2
        obtain ⟨w4, hw4⟩ : ∃ W0, W0 = w3.setCell ⟨w1.heap.size, 1, none⟩ (.map (some wr.heap.size)) := ⟨_, rfl⟩
        have hdone := hna.done HFV.out hrow hb3 rfl hm3 hw4 hr0 ⟨by omega, Nat.le_refl _⟩ hb.size
        rw [← hw4]
        refine ⟨.inr ⟨HE0.out hok, _, _, rfl, hdone, fun g hg => hg.1⟩, ?_⟩
        refine ⟨?_, ?_, ?_, ?_, fun g hg => ?_⟩
        · rw [hw4]; exact hb3.os.trans hb.os
        · rw [hw4]; exact hb3.tape.trans hb.tape
        · rw [hw4]; exact hb3.output.trans hb.output
        · rw [hw4]; have := hb3.size; have := hb.size; simp only [World.setCell]; simp only [Array.size_modify]; omega
        · have hne : g ≠ w1.heap.size := by omega
          rw [hw4]
          exact ((Below.heap_setCell _ _ _ _ hne).trans (hb3.block g (Nat.lt_of_lt_of_le hg hb.size))).trans (hb.block g hg)
end Go.Proofs.YtnhfnfdmpcpcoaaDoor
