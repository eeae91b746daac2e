/-
  The bytes of all files, in whatever order they come.
-/
import Derived.Test.YtheoklhmlnfgjaaGreatDoorPk0
import Derived.Test.YtheoklhmlnfgjaaGreatDoorPk1
import Derived.Maps.RangeWalk
import Derived.Deep.LoopGhost
import Derived.Deep.RegionHeld3
import Derived.Laws.Cover1
import Derived.Sort.Walk0
import Derived.Laws.ResultCell
namespace Go.Proofs.YtheoklhmlnfgjaaGreatDoor
open Go.RowKit Go.Maps

def datF (S : DiskC) (g : Nat) : BS := match S.files.find? (fun f => decide (f.blk = g)) with | some f => f.data | none => []
def sumF (f : BS × Nat → Nat) (left : Lit → Bool) (M : NM) : Nat := ((M.filter fun x => !left (.string x.1)).map f).sum
def usedS (S : DiskC) : Nat := (S.now.map fun x => (datF S x.2).length).sum

theorem sumF_start (f : BS × Nat → Nat) (left : Lit → Bool) : ∀ M : NM, (∀ x ∈ M, left (.string x.1) = true) → sumF f left M = 0
  | [], _ => rfl
  | x :: M, h => by
    unfold sumF
    rw [List.filter_cons, if_neg (by rw [h x (List.mem_cons_self ..)]; simp)]
    exact sumF_start f left M fun y hy => h y (List.mem_cons_of_mem _ hy)
theorem sumF_end (f : BS × Nat → Nat) (left : Lit → Bool) (h : ∀ kl, left kl = false) (M : NM) : sumF f left M = (M.map f).sum := by
  unfold sumF
  rw [List.filter_eq_self.2 (fun x _ => by rw [h]; rfl)]
theorem sumF_same (f : BS × Nat → Nat) (left : Lit → Bool) (k : BS) (M : NM) (h : ∀ x ∈ M, x.1 ≠ k) : sumF f (fun z => left z && !z.sameKey (.string k)) M = sumF f left M := by
  unfold sumF
  congr 2
  apply List.filter_congr
  intro x hx
  show (!(left (.string x.1) && !(Lit.string x.1).sameKey (.string k))) = _
  rw [same_str, decide_eq_false (h x hx)]
  simp
theorem sumF_step (f : BS × Nat → Nat) (left : Lit → Bool) (k : BS) (b : Nat) (hl : left (.string k) = true) : ∀ M : NM, Rises M → (k, b) ∈ M → sumF f (fun z => left z && !z.sameKey (.string k)) M = sumF f left M + f (k, b)
  | [], _, h => by cases h
  | (m, g) :: M, hr, h => by
    unfold Rises at hr
    rw [List.pairwise_cons] at hr
    by_cases e : m = k
    · subst e
      have hne : ∀ x ∈ M, x.1 ≠ m := fun x hx e2 => by have := hr.1 x hx; simp only at this; rw [e2] at this; exact List.lt_irrefl _ this
      have hg : g = b := by
        rcases List.mem_cons.1 h with h | h
        · injection h with _ h; exact h.symm
        · exact absurd rfl (hne _ h)
      subst hg
      have hs := sumF_same f left m M hne
      unfold sumF at hs ⊢
      rw [List.filter_cons, if_pos (by show (!(left (.string m) && !(Lit.string m).sameKey (.string m))) = true; rw [same_str]; simp), List.filter_cons, if_neg (by rw [hl]; simp), List.map_cons, List.sum_cons, hs]
      omega
    · have h2 : (k, b) ∈ M := by
        rcases List.mem_cons.1 h with h | h
        · injection h with h _; exact absurd h.symm e
        · exact h
      have ih := sumF_step f left k b hl M hr.2 h2
      unfold sumF at ih ⊢
      rw [List.filter_cons, List.filter_cons]
      have hp : (!(left (.string m) && !(Lit.string m).sameKey (.string k))) = !left (.string m) := by rw [same_str, decide_eq_false e]; simp
      simp only [hp]
      split
      · rw [List.map_cons, List.sum_cons, List.map_cons, List.sum_cons, ih]; omega
      · exact ih
theorem sumF_le (f : BS × Nat → Nat) (left : Lit → Bool) : ∀ M : NM, sumF f left M ≤ (M.map f).sum
  | [] => Nat.le_refl _
  | x :: M => by
    have ih := sumF_le f left M
    unfold sumF at ih ⊢
    rw [List.filter_cons]
    split
    · rw [List.map_cons, List.sum_cons, List.map_cons, List.sum_cons]; omega
    · rw [List.map_cons, List.sum_cons]; omega
theorem Dm_has (k : BS) (M : NM) : Maps.has (Dm M) (.string k) = M.any fun x => decide (x.1 = k) := by
  show (M.map encN).any _ = _
  rw [List.any_map]
  congr 1
  funext x
  exact same_str x.1 k
theorem Dm_has_mem (M : NM) (x : BS × Nat) (h : x ∈ M) : Maps.has (Dm M) (.string x.1) = true := by
  rw [Dm_has, List.any_eq_true]
  exact ⟨x, h, by simp⟩
theorem Dm_mem {M : NM} {k : BS} {o : Option Nat} (h : ∀ zd, (Dm M).atKey (.string k) zd = fileD o) : ∃ b, o = some b ∧ (k, b) ∈ M := by
  have h1 := h (fileD none)
  rw [Dm_at] at h1
  have e : lookN M k = o := by
    have := fileR_inv (v := fileV (lookN M k)) (o := o) (ps := []) (by rw [fileR_mk, h1])
    cases hl : lookN M k with
    | none => rw [hl] at this; cases o with
      | none => rfl
      | some b => cases this
    | some a => rw [hl] at this; cases o with
      | none => cases this
      | some b => injection this with e; injection e with e; injection e with e; rw [e]
  cases o with
  | some b => exact ⟨b, rfl, lookN_mem _ _ _ e⟩
  | none =>
    exfalso
    have h2 := h (.lit (.int .i64 7))
    have h3 : ∀ (L : NM) (zd : DataW Unit), lookN L k = none → (Dm L).atKey (.string k) zd = zd := by
      intro L zd
      induction L with
      | nil => intro _; rfl
      | cons y L ih =>
        intro hl
        rw [lookN_cons] at hl
        split at hl
        · cases hl
        · rename_i hne
          have ih := ih hl
          unfold Dm DataW.atKey at ih ⊢
          simp only [List.map_cons, List.find?_cons]
          have : ((encN y).1.sameKey (.string k)) = false := by
            show (Lit.string y.1).sameKey (.string k) = false
            rw [same_str]; exact decide_eq_false hne
          simp only [this]
          exact ih
    rw [h3 M _ e] at h2
    simp [fileD] at h2
theorem datF_mem {S : DiskC} {f : FileC} (hp : S.files.Pairwise fun f g => f.blk ≠ g.blk ∧ ∀ r, f.val.ownBlock = some r → g.val.ownBlock ≠ some r) (hf : f ∈ S.files) : datF S f.blk = f.data := by
  have : ∀ F : List FileC, (F.Pairwise fun f g => f.blk ≠ g.blk ∧ ∀ r, f.val.ownBlock = some r → g.val.ownBlock ≠ some r) → f ∈ F → F.find? (fun z => decide (z.blk = f.blk)) = some f := by
    intro F
    induction F with
    | nil => intro _ h; cases h
    | cons z F ih =>
      intro hp h
      rw [List.pairwise_cons] at hp
      rw [List.find?_cons]
      rcases List.mem_cons.1 h with h | h
      · subst h; simp
      · have : decide (z.blk = f.blk) = false := decide_eq_false (hp.1 f h).1
        rw [this]
        exact ih hp.2 h
  unfold datF
  rw [this _ hp hf]
end Go.Proofs.YtheoklhmlnfgjaaGreatDoor
/-
  A disk as plain data: the files by their numbers.
-/
namespace Go.Proofs.YtheoklhmlnfgjaaGreatDoor
open Go.RowKit Go.Maps

structure Pl where
  now : NM
  safe : NM
  pend : List Chg
  files : List (BS × Nat)
  room : Nat
  fails : List Int
  power : Int
  steps : Nat
inductive Opp where
  | create (k : BS)
  | append (k d : BS)
  | sync (k : BS)
  | names
  | rename (a b : BS)
  | remove (k : BS)
def downP (A : Pl) : Bool := decide (0 ≤ A.power ∧ (A.steps : Int) = A.power)
def begP (A : Pl) (L : List BS) : Int := if downP A = true then 93 else if A.fails.contains ((A.steps : Int) + 1) = true then 94 else if L.any badN = true then 95 else 0
def tickP (A : Pl) : Pl := if downP A = true then A else { A with steps := A.steps + 1 }
def onP (A : Pl) (L : List BS) (k : BS) : Int := if begP A (L ++ [k]) ≠ 0 then begP A (L ++ [k]) else if lookN A.now k = none then 90 else 0
def datP (A : Pl) (i : Nat) : BS := (A.files[i]?.map (·.1)).getD []
def firmP (A : Pl) (i : Nat) : Nat := (A.files[i]?.map (·.2)).getD 0
def usedP (A : Pl) : Nat := (A.now.map fun x => (datP A x.2).length).sum
def atP (A : Pl) (k : BS) : Nat := (lookN A.now k).getD 0
def chgP (A : Pl) (c : Chg) : Pl := { tickP A with now := applyC c A.now, pend := A.pend ++ [c] }
/-- a step, and what it answers -/
def doP (A : Pl) : Opp → Pl × Int
  | .create k => if begP A [k] ≠ 0 then (tickP A, begP A [k]) else if lookN A.now k ≠ none then (tickP A, 91) else ({ chgP A (.put k A.files.length) with files := A.files ++ [([], 0)] }, 0)
  | .append k d => if onP A [] k ≠ 0 then (tickP A, onP A [] k) else if 0 < d.length ∧ A.room < usedP A + d.length then (tickP A, 92) else ({ tickP A with files := A.files.modify (atP A k) fun x => (x.1 ++ d, x.2) }, 0)
  | .sync k => if onP A [] k ≠ 0 then (tickP A, onP A [] k) else ({ tickP A with files := A.files.modify (atP A k) fun x => (x.1, x.1.length) }, 0)
  | .names => if begP A [] ≠ 0 then (tickP A, begP A []) else ({ tickP A with safe := A.now, pend := [] }, 0)
  | .rename a b => if onP A [b] a ≠ 0 then (tickP A, onP A [b] a) else if a = b then (tickP A, 0) else (chgP A (.ren a b (atP A a)), 0)
  | .remove k => if onP A [] k ≠ 0 then (tickP A, onP A [] k) else (chgP A (.del k), 0)
def readEP (A : Pl) (k : BS) : Int := if downP A = true then 93 else if badN k = true then 95 else if lookN A.now k = none then 90 else 0
def readP (A : Pl) (k : BS) : BS := if readEP A k = 0 then datP A (atP A k) else []
def listP (A : Pl) : List BS := if downP A = true then [] else A.now.map (·.1)
def leftNP (A : Pl) (n : Int) : NM := (A.pend.take n.toNat).foldl (fun M c => applyC c M) A.safe
def moreP (keep : List Int) (i n : Nat) : Nat := match keep[i]? with | none => 0 | some z => (min z n).toNat
def leftDP (A : Pl) (keep : List Int) (i : Nat) : BS := (datP A i).take (firmP A i + moreP keep i ((datP A i).length - firmP A i))
def leftP (A : Pl) (n : Int) (keep : List Int) : List (BS × BS) := (leftNP A n).map fun x => (x.1, leftDP A keep x.2)

/-- a file's number -/
def noF : List FileC → Nat → Nat
  | [], _ => 0
  | f :: F, g => if f.blk = g then 0 else noF F g + 1
theorem noF_app (G : List FileC) (g : Nat) : ∀ F : List FileC, (∃ f ∈ F, f.blk = g) → noF (F ++ G) g = noF F g
  | [], h => by obtain ⟨f, h, _⟩ := h; cases h
  | f :: F, h => by
    rw [List.cons_append]
    unfold noF
    by_cases e : f.blk = g
    · rw [if_pos e, if_pos e]
    · rw [if_neg e, if_neg e, noF_app G g F]
      obtain ⟨z, hz, hb⟩ := h
      rcases List.mem_cons.1 hz with rfl | hz
      · exact absurd hb e
      · exact ⟨z, hz, hb⟩
theorem noF_new (f0 : FileC) : ∀ F : List FileC, (∀ f ∈ F, f.blk ≠ f0.blk) → noF (F ++ [f0]) f0.blk = F.length
  | [], _ => by unfold noF; rw [List.nil_append]; simp
  | f :: F, h => by
    rw [List.cons_append]
    unfold noF
    rw [if_neg (h f (List.mem_cons_self ..)), noF_new f0 F fun z hz => h z (List.mem_cons_of_mem _ hz), List.length_cons]
theorem noF_congr : ∀ F G : List FileC, F.map (·.blk) = G.map (·.blk) → noF F = noF G
  | [], [], _ => rfl
  | [], _ :: _, h => by cases h
  | _ :: _, [], h => by cases h
  | f :: F, f' :: G, h => by
    simp only [List.map_cons, List.cons.injEq] at h
    funext g
    unfold noF
    rw [h.1, noF_congr F G h.2]
theorem noF_get (g : Nat) : ∀ F : List FileC, (∃ f ∈ F, f.blk = g) → ∃ f, F[noF F g]? = some f ∧ f.blk = g ∧ F.find? (fun z => decide (z.blk = g)) = some f
  | [], h => by obtain ⟨f, h, _⟩ := h; cases h
  | f :: F, h => by
    unfold noF
    by_cases e : f.blk = g
    · rw [if_pos e]; exact ⟨f, rfl, e, by rw [List.find?_cons, decide_eq_true e]⟩
    · rw [if_neg e]
      obtain ⟨z, h1, h2, h3⟩ := noF_get g F (by
        obtain ⟨z, hz, hb⟩ := h
        rcases List.mem_cons.1 hz with rfl | hz
        · exact absurd hb e
        · exact ⟨z, hz, hb⟩)
      exact ⟨z, by rw [List.getElem?_cons_succ]; exact h1, h2, by rw [List.find?_cons, decide_eq_false e]; exact h3⟩
abbrev ApartF (F : List FileC) : Prop := F.Pairwise fun f g => f.blk ≠ g.blk ∧ ∀ r, f.val.ownBlock = some r → g.val.ownBlock ≠ some r
theorem noF_at : ∀ (F : List FileC) (i : Nat) (f : FileC), ApartF F → F[i]? = some f → noF F f.blk = i
  | [], i, f, _, h => by cases h
  | z :: F, 0, f, _, h => by
    obtain rfl : z = f := by simpa using h
    unfold noF
    rw [if_pos rfl]
  | z :: F, i + 1, f, hp, h => by
    rw [List.getElem?_cons_succ] at h
    have hp := List.pairwise_cons.1 hp
    unfold noF
    rw [if_neg (hp.1 f (List.mem_of_getElem? h)).1, noF_at F i f hp.2 h]

def mapN (φ : Nat → Nat) (M : NM) : NM := M.map fun x => (x.1, φ x.2)
def mapC (φ : Nat → Nat) : Chg → Chg
  | .put k f => .put k (φ f)
  | .ren a k f => .ren a k (φ f)
  | .del k => .del k
theorem lookN_map (φ : Nat → Nat) (k : BS) : ∀ M : NM, lookN (mapN φ M) k = (lookN M k).map φ
  | [] => rfl
  | (m, g) :: M => by
    have ih := lookN_map φ k M
    unfold mapN at ih ⊢
    rw [List.map_cons, lookN_cons, lookN_cons, ih]
    split <;> rfl
theorem delN_map (φ : Nat → Nat) (k : BS) (M : NM) : delN k (mapN φ M) = mapN φ (delN k M) := by
  unfold delN mapN
  rw [List.filter_map]
  rfl
theorem insN_map (φ : Nat → Nat) (k : BS) (f : Nat) : ∀ M : NM, insN k (φ f) (mapN φ M) = mapN φ (insN k f M)
  | [] => rfl
  | (m, g) :: M => by
    have ih := insN_map φ k f M
    unfold mapN at ih ⊢
    rw [List.map_cons]
    unfold insN
    split
    · rfl
    · split
      · rfl
      · rw [List.map_cons, ih]
theorem applyC_map (φ : Nat → Nat) (c : Chg) (M : NM) : applyC (mapC φ c) (mapN φ M) = mapN φ (applyC c M) := by
  cases c with
  | put k f => exact insN_map φ k f M
  | ren a k f => show insN k (φ f) (delN a (mapN φ M)) = mapN φ (insN k f (delN a M)); rw [delN_map, insN_map]
  | del k => exact delN_map φ k M
theorem mapN_congr {φ ψ : Nat → Nat} {M : NM} (h : ∀ x ∈ M, φ x.2 = ψ x.2) : mapN φ M = mapN ψ M := by
  unfold mapN
  exact List.map_congr_left fun x hx => by rw [h x hx]
theorem fold_map (φ : Nat → Nat) : ∀ (C : List Chg) (M : NM), (C.map (mapC φ)).foldl (fun M c => applyC c M) (mapN φ M) = mapN φ (C.foldl (fun M c => applyC c M) M)
  | [], _ => rfl
  | c :: C, M => by
    rw [List.map_cons, List.foldl_cons, List.foldl_cons, applyC_map, fold_map φ C]

def absD (S : DiskC) : Pl where
  now := mapN (noF S.files) S.now
  safe := mapN (noF S.files) S.safe
  pend := S.pend.map (mapC (noF S.files))
  files := S.files.map fun f => (f.data, f.firm)
  room := S.room
  fails := S.fails
  power := S.power
  steps := S.steps
theorem abs_down (S : DiskC) : downP (absD S) = downS S := rfl
theorem abs_beg (S : DiskC) (L : List BS) : begP (absD S) L = beginE S L := rfl
theorem abs_tick (S : DiskC) : tickP (absD S) = absD (beginS S) := by
  unfold tickP beginS
  rw [abs_down]
  split <;> rfl
theorem abs_look (S : DiskC) (k : BS) : lookN (absD S).now k = (lookN S.now k).map (noF S.files) := lookN_map _ _ _
theorem abs_on (S : DiskC) (L : List BS) (k : BS) : onP (absD S) L k = onE S L k := by
  unfold onP onE
  rw [abs_beg, abs_look]
  cases lookN S.now k <;> rfl
theorem beginS_rest (S : DiskC) : (beginS S).safe = S.safe ∧ (beginS S).pend = S.pend ∧ (beginS S).files = S.files ∧ (beginS S).room = S.room ∧ (beginS S).pvals = S.pvals ∧ (beginS S).fails = S.fails ∧ (beginS S).power = S.power := by
  unfold beginS
  split <;> exact ⟨rfl, rfl, rfl, rfl, rfl, rfl, rfl⟩
theorem datP_of {S : DiskC} {i : Nat} {f : FileC} (h : S.files[i]? = some f) : datP (absD S) i = f.data ∧ firmP (absD S) i = f.firm := by
  unfold datP firmP absD
  simp only [List.getElem?_map, h]
  exact ⟨rfl, rfl⟩
theorem abs_dat {S : DiskC} {g : Nat} (h : HasFile S g) : datP (absD S) (noF S.files g) = datF S g := by
  obtain ⟨f, h1, h2, h3⟩ := noF_get g S.files h
  rw [(datP_of h1).1]
  unfold datF
  rw [h3]
theorem abs_used {S : DiskC} (h : ∀ x ∈ S.now, HasFile S x.2) : usedP (absD S) = usedS S := by
  unfold usedP usedS
  show ((mapN (noF S.files) S.now).map _).sum = _
  unfold mapN
  rw [List.map_map]
  congr 1
  exact List.map_congr_left fun x hx => by
    show (datP (absD S) (noF S.files x.2)).length = _
    rw [abs_dat (h x hx)]
/-- a disk as plain data, in the heap -/
def DiskP (w : World) (P : Nat → Prop) (dd : Nat) (A : Pl) : Prop := ∃ S, DiskAt w P dd S ∧ absD S = A
end Go.Proofs.YtheoklhmlnfgjaaGreatDoor
/-
  Create: a new file.
-/
namespace Go.Proofs.YtheoklhmlnfgjaaGreatDoor
open Go.RowKit Go.Maps

/-- what the walks ask of a disk's sizes -/
structure FitP (A : Pl) : Prop where
  steps : A.steps ≤ 1000000
  pend : A.pend.length ≤ 1000000
  now : A.now.length ≤ 4000000000000
  safe : A.safe.length ≤ 4000000000000
  files : A.files.length ≤ 4000000000000
  fails : A.fails.length ≤ 17592186043904
  used : usedP A ≤ 140737488351232
  room : A.room ≤ 1073741824
def StepPost (w : World) (P : Nat → Prop) (dd : Nat) (A : Pl) (o : Opp) : Ending → World → Prop := fun e w' =>
  e = .returned (.int .i64 (doP A o).2) ∧ (∃ P', DiskP w' P' dd (doP A o).1 ∧ ∀ g, P' g → P g ∨ w.heap.size ≤ g) ∧ Only P w w'

theorem abs_add {S : DiskC} (f : FileC) (hnow : ∀ x ∈ S.now, HasFile S x.2) (hsafe : ∀ x ∈ S.safe, HasFile S x.2) (hpend : ∀ c ∈ S.pend, ChgFile S c) :
    absD { S with files := S.files ++ [f] } = { absD S with files := (absD S).files ++ [(f.data, f.firm)] } := by
  unfold absD
  simp only [Pl.mk.injEq, List.map_append, List.map_cons, List.map_nil, and_true]
  refine ⟨mapN_congr fun x hx => noF_app _ _ _ (hnow x hx), mapN_congr fun x hx => noF_app _ _ _ (hsafe x hx), List.map_congr_left fun c hc => ?_⟩
  have := hpend c hc
  cases c with
  | put k g => show Chg.put _ _ = Chg.put _ _; rw [noF_app _ _ _ this]
  | ren a k g => show Chg.ren _ _ _ = Chg.ren _ _ _; rw [noF_app _ _ _ this]
  | del k => rfl
theorem DiskAt.pendF {w : World} {P : Nat → Prop} {dd : Nat} {S : DiskC} (h : DiskAt w P dd S) : ∀ c ∈ S.pend, ChgFile S c := by
  intro c hc
  obtain ⟨i, hi, e⟩ := List.getElem_of_mem hc
  have hl : S.pvals.length = S.pend.length := by have := h.row.1; omega
  exact (h.chg i (S.pvals[i]'(by omega)) c (List.getElem?_eq_getElem (by omega)) (by rw [List.getElem?_eq_getElem hi, e])).2
theorem abs_chg (S : DiskC) (c : Chg) (pv : Value) (vs : List Value) : absD { S with now := applyC c S.now, pend := S.pend ++ [c], pvals := vs, pv := pv } = { absD S with now := applyC (mapC (noF S.files) c) (absD S).now, pend := (absD S).pend ++ [mapC (noF S.files) c] } := by
  unfold absD
  simp only [Pl.mk.injEq, List.map_append, List.map_cons, List.map_nil, and_true]
  exact (applyC_map _ c S.now).symm

theorem tick_rest (A : Pl) : (tickP A).now = A.now ∧ (tickP A).pend = A.pend ∧ (tickP A).files = A.files ∧ (tickP A).safe = A.safe ∧ (tickP A).room = A.room ∧ (tickP A).fails = A.fails ∧ (tickP A).power = A.power := by
  unfold tickP
  split <;> exact ⟨rfl, rfl, rfl, rfl, rfl, rfl, rfl⟩
set_option maxHeartbeats 1000000 in
theorem create_mid {w1 w4 : World} {P : Nat → Prop} {dd : Nat} {S : DiskC} (h1 : DiskAt w1 P dd (beginS S)) (nm : ByteArray) (hnm : nm.size ≤ 140737488351232) (q bx : Nat)
    (hw4 : w4 = ((((w1.drewN q).alloc (.cells #[.int .i64 S.files.length, .slice none 0 0, .int .i64 0] 119)).setCell ⟨dd, 3, none⟩ (.int .i64 ((S.files.length : Int) + 1))).alloc (.cells #[.pointer (some ⟨w1.heap.size, 0, none⟩)] 117)))
    (hbx1 : w1.heap[bx]? = some (.cells #[.string nm] 9 (0, 0))) (hn : S.now.length ≤ 4000000000000) (hp : S.pend.length ≤ 1000000) :
    Calls Tryz.prog 78 #[.pointer (some ⟨dd, 0, none⟩), .func (.func 81) #[] #[.pointer (some ⟨w1.heap.size + 1, 0, none⟩), .pointer (some ⟨bx, 0, none⟩)]] w4 fun e w' => e = .returned (.int .i64 0) ∧
      (∃ P', DiskP w' P' dd { chgP (absD S) (.put nm.data.toList (absD S).files.length) with files := (absD S).files ++ [([], 0)] } ∧ ∀ g, P' g → P g ∨ w1.heap.size ≤ g) ∧ Only P w1 w' := by
  obtain ⟨wa, hwa⟩ : ∃ W0, W0 = (w1.drewN q).alloc (.cells #[.int .i64 S.files.length, .slice none 0 0, .int .i64 0] 119) := ⟨_, rfl⟩
  obtain ⟨wb, hwb⟩ : ∃ W0, W0 = wa.setCell ⟨dd, 3, none⟩ (.int .i64 ((S.files.length : Int) + 1)) := ⟨_, rfl⟩
  rw [← hwa, ← hwb] at hw4
  have hr := beginS_rest S
  have hdd1 : dd < w1.heap.size := lt_of_heap h1.blk
  have sza : wa.heap.size = w1.heap.size + 1 := by rw [hwa]; simp
  have szb : wb.heap.size = w1.heap.size + 1 := by rw [hwb]; simp only [World.setCell]; simp; exact sza
  have sz4 : w4.heap.size = w1.heap.size + 2 := by rw [hw4]; simp; omega
  have e4 : ∀ g, g < wb.heap.size → w4.heap[g]? = wb.heap[g]? := fun g hg => by rw [hw4]; exact heap_alloc_old _ _ hg
  have eb : ∀ g, g ≠ dd → wb.heap[g]? = wa.heap[g]? := fun g hg => by rw [hwb]; exact Below.heap_setCell _ _ _ _ hg
  have ea : ∀ g, g < w1.heap.size → wa.heap[g]? = w1.heap[g]? := fun g hg => by rw [hwa]; exact heap_alloc_old (w1.drewN q) _ hg
  have hfile : w4.heap[w1.heap.size]? = some (.cells #[.int .i64 S.files.length, .slice none 0 0, .int .i64 0] 119 (0, 0)) := by
    rw [e4 _ (by omega), eb _ (by omega), hwa]
    exact heap_alloc_new (w1.drewN q) _
  have hptr : w4.heap[w1.heap.size + 1]? = some (.cells #[.pointer (some ⟨w1.heap.size, 0, none⟩)] 117 (0, 0)) := by
    have := heap_alloc_new wb (.cells #[.pointer (some ⟨w1.heap.size, 0, none⟩)] 117)
    rw [szb] at this
    rw [hw4]; exact this
  have hother : ∀ g, g < w1.heap.size → g ≠ dd → w4.heap[g]? = w1.heap[g]? := fun g hg hne => ((e4 g (by omega)).trans (eb g hne)).trans (ea g hg)
  have hblk : w4.heap[dd]? = some (.cells (diskCells { beginS S with files := (beginS S).files ++ [⟨w1.heap.size, .slice none 0 0, [], 0⟩] }) 116 (0, 0)) := by
    rw [e4 _ (by omega), hwb]
    simp only [World.setCell, Array.getElem?_modify, (ea dd hdd1).trans h1.blk]
    simp [diskCells, hr.2.2.1]
  have h4 := h1.addFile ⟨w1.heap.size, .slice none 0 0, [], 0⟩ (w' := w4) (fun g hg hne _ => hother g hg hne) hblk (by rw [hr.2.2.1]; exact hfile) (World.ownsRow_nil _ _ _ _) (Nat.le_refl _) (fun r e => by cases e) (Nat.le_refl _)
  have hbxl : bx < w1.heap.size := lt_of_heap hbx1
  have hchg : IsChg w4 (.func (.func 81) #[] #[.pointer (some ⟨w1.heap.size + 1, 0, none⟩), .pointer (some ⟨bx, 0, none⟩)]) (.put nm.data.toList w1.heap.size) :=
    ⟨w1.heap.size + 1, bx, nm, rfl, by unfold maxLen; omega, rfl, hptr, (hother bx hbxl (blk_ne hbx1 h1.blk (by decide))).trans hbx1⟩
  have hfresh : ∀ f ∈ (beginS S).files, f.blk ≠ w1.heap.size := fun f hf e => by
    obtain ⟨j, hj, e2⟩ := List.getElem_of_mem hf
    have := lt_of_heap (h1.files j f (by rw [List.getElem?_eq_getElem hj, e2])).1
    omega
  refine (alter_any h4 _ _ hchg (hasFile_new ⟨w1.heap.size, .slice none 0 0, [], 0⟩) (by rw [(beginS_now S).1]; exact hn) (by show (beginS S).pend.length ≤ _; rw [hr.2.1]; exact hp)).mono ?_
  rintro e w5 ⟨rfl, ⟨pv', P', h5, hP'⟩, ho5⟩
  refine ⟨rfl, ⟨P', ⟨_, h5, ?_⟩, fun g hg => ?_⟩, ?_⟩
  · have ea := abs_add (S := beginS S) ⟨w1.heap.size, .slice none 0 0, [], 0⟩ h1.nowF h1.safeF h1.pendF
    have ec := abs_chg { beginS S with files := (beginS S).files ++ [⟨w1.heap.size, .slice none 0 0, [], 0⟩] } (.put nm.data.toList w1.heap.size) pv' ((beginS S).pvals ++ [.func (.func 81) #[] #[.pointer (some ⟨w1.heap.size + 1, 0, none⟩), .pointer (some ⟨bx, 0, none⟩)]])
    have en : noF ((beginS S).files ++ [⟨w1.heap.size, .slice none 0 0, [], 0⟩]) w1.heap.size = (absD S).files.length := by
      have := noF_new ⟨w1.heap.size, .slice none 0 0, [], 0⟩ (beginS S).files hfresh
      rw [this, hr.2.2.1]; unfold absD; simp
    refine ec.trans ?_
    rw [ea, ← abs_tick]
    have ht := tick_rest (absD S)
    unfold chgP mapC
    simp only [ht.1, ht.2.1, ht.2.2.1, en]
  · rcases hP' g hg with hg | hg
    · rcases hg with hg | hg | hg
      · exact .inl hg
      · exact .inr (by rw [hg]; exact Nat.le_refl _)
      · cases hg
    · exact .inr (by omega)
  · refine ⟨ho5.os.trans (by rw [hw4, hwb, hwa]; rfl), ho5.tape.trans (by rw [hw4, hwb, hwa]; rfl), ho5.output.trans (by rw [hw4, hwb, hwa]; rfl), by have := ho5.size; omega, fun k hk hnk => ?_⟩
    exact (ho5.block k (by omega) (fun e => by
      rcases e with e | e | e
      · exact hnk e
      · simp only at e; omega
      · cases e)).trans (hother k hk (fun e => hnk (by rw [e]; exact h1.inP.1)))

set_option maxHeartbeats 4000000 in
set_option maxRecDepth 100000 in
theorem create_p {w : World} {P : Nat → Prop} {dd : Nat} {A : Pl} (h : DiskP w P dd A) (nm : ByteArray) (hnm : nm.size ≤ 140737488351232) (hfit : FitP A) :
    Calls Tryz.prog 46 #[.pointer (some ⟨dd, 0, none⟩), .string nm] w (StepPost w P dd A (.create nm.data.toList)) := by
  obtain ⟨S, h, rfl⟩ := h
  obtain ⟨f1, f2, f3, f4, f5, f6, f7, f8⟩ := hfit
  obtain ⟨wa, hwa⟩ : ∃ W0, W0 = (w.alloc (.cells #[.string nm] 9)).alloc (.cells #[.string nm] 9) := ⟨_, rfl⟩
  have hba : Below w.heap.size w wa := by rw [hwa]; exact ((Below.refl _ w).alloc (Nat.le_refl _) _).alloc (by simp) _
  have hq : InS wa (some ⟨w.heap.size + 1, 0, none⟩) [nm.data.toList] := by
    rw [hwa]
    have := InS.one (w.alloc (.cells #[.string nm] 9)) nm
    simpa using this
  have hbeg := begin_any (h.below hba) [nm.data.toList] (some ⟨w.heap.size + 1, 0, none⟩) 1 1 rfl (by omega) (fun x hx => by rw [List.mem_singleton.1 hx, size_list]; exact hnm) hq f1 f6
  rw [hwa] at hbeg
  have HWA := Lib.hid hwa
  clear hq hwa hba
  have hD : doP (absD S) (.create nm.data.toList) = if beginE S [nm.data.toList] ≠ 0 then (tickP (absD S), beginE S [nm.data.toList]) else if lookN (absD S).now nm.data.toList ≠ none then (tickP (absD S), 91) else ({ chgP (absD S) (.put nm.data.toList (absD S).files.length) with files := (absD S).files ++ [([], 0)] }, 0) := rfl
  obtain ⟨en, hen⟩ : ∃ en, en = beginE S [nm.data.toList] := ⟨_, rfl⟩
  rw [← hen] at hbeg hD
  have HD := Lib.hid hD
  clear hen hD
  have hsub : ∀ w', Only (fun g => g = dd) ((w.alloc (.cells #[.string nm] 9)).alloc (.cells #[.string nm] 9)) w' → Only P w w' := fun w' ho =>
    have hz := ho.size
    ⟨ho.os, ho.tape, ho.output, by simp at hz; omega, fun k hk hnk => ((ho.block k (by simp; omega) (fun e => hnk (by rw [e]; exact h.inP.1))).trans (heap_alloc_old _ _ (by simp; omega))).trans (heap_alloc_old _ _ hk)⟩
  go_enter Tryz.func46, Tryz.ntmps46
  go_wp2_with fail
  refine hbeg.mono ?_
  rintro e w1 ⟨rfl, h1, ho1⟩
  clear hbeg
  by_cases hz : en = 0
  · subst hz
    have c0 : w1.cell? ⟨dd, 0, none⟩ = some (.map (some S.bn)) := by
      have := h1.cell 0
      rw [this]
      unfold diskCells
      rw [(beginS_now S).2]; rfl
    have hmap : OwnN w1 S.bn S.now := by
      have := h1.now
      rwa [(beginS_now S).1, (beginS_now S).2] at this
    have hbx := heap_alloc_new w (.cells #[.string nm] 9)
    have hdd : dd < w.heap.size := lt_of_heap h.blk
    have hbx1 : w1.heap[w.heap.size]? = some (.cells #[.string nm] 9 (0, 0)) := by
      have := ho1.block w.heap.size (by simp; omega) (by omega)
      rw [this]
      exact heap_alloc_old _ _ (lt_of_heap hbx) |>.trans hbx
    have cbx : w1.cell? ⟨w.heap.size, 0, none⟩ = some (.string nm) := by rw [cell_of_row _ _ _ _ _ _ hbx1]; rfl
    have hrun := fun m => run_lookF (hmap.below (bdrewN (Below.refl _ w1) m)) nm (by unfold maxLen; omega)
    have hmf : ∀ (fn : Fn) (first cap : Array Value) (w : World), (Instr.makeFunc fn first cap).run Tryz.prog w = .ok (.func fn first cap) w := fun _ _ _ _ => rfl
    cases hl : lookN S.now nm.data.toList with
    | some g =>
      rw [hl] at hrun
      unfold fileV at hrun
      have HR := Lib.hid (show doP (absD S) (.create nm.data.toList) = (tickP (absD S), 91) by rw [HD.out, if_neg (by simp), if_pos (by rw [abs_look, hl]; simp)])
      have HO := Lib.hid (hsub _ ho1)
      clear hl ho1 hsub
      go_wp2_with fail
      go_quiet (fail)
      go_wp2_with fail
      go_ret
      exact ⟨by rw [HR.out]; rfl, ⟨P, ⟨_, h1.below (bdrewN (Below.refl _ _) _), by rw [HR.out, abs_tick]⟩, fun g hg => .inl hg⟩, HO.out.drewN _⟩
    | none =>
      have HR := Lib.hid (show doP (absD S) (.create nm.data.toList) = ({ chgP (absD S) (.put nm.data.toList (absD S).files.length) with files := (absD S).files ++ [([], 0)] }, 0) by rw [HD.out, if_neg (by simp), if_neg (by rw [abs_look, hl]; simp)])
      have HO := Lib.hid (hsub _ ho1)
      have c3 : w1.cell? ⟨dd, 3, none⟩ = some (.int .i64 S.files.length) := by rw [h1.cell 3]; show some (Value.int .i64 ((beginS S).files.length : Int)) = _; rw [(beginS_rest S).2.2.1]
      have hdd1 : dd < w1.heap.size := lt_of_heap h1.blk
      have hnl : S.now.length ≤ 4000000000000 := by
        have e : (absD S).now.length = S.now.length := by show (mapN _ _).length = _; unfold mapN; simp
        omega

      have hpl : S.pend.length ≤ 1000000 := by
        have e : (absD S).pend.length = S.pend.length := by unfold absD; simp
        omega
      have hfl : S.files.length ≤ 4000000000000 := by
        have e : (absD S).files.length = S.files.length := by unfold absD; simp
        omega
      have hblkN : ∀ (m : Nat) (o1 o2 : Obj), (((w1.drewN m).alloc o1).alloc o2).heap[dd]? = some (.cells (diskCells (beginS S)) 116 (0, 0)) := fun m o1 o2 => (heap_alloc_old _ _ (by simp; omega)).trans ((heap_alloc_old _ _ hdd1).trans h1.blk)
      have c3' : ∀ (m : Nat) (o1 o2 : Obj), (((w1.drewN m).alloc o1).alloc o2).cell? ⟨dd, 3, none⟩ = some (.int .i64 S.files.length) := fun m o1 o2 => by
        rw [cell_of_row _ _ _ _ _ _ (hblkN m o1 o2)]; show some (Value.int .i64 ((beginS S).files.length : Int)) = _; rw [(beginS_rest S).2.2.1]
      have f3' : ∀ (m : Nat) (o1 o2 : Obj), (((w1.drewN m).alloc o1).alloc o2).frozen? ⟨dd, 3, none⟩ = false := fun m o1 o2 => frozen_of_row _ dd 3 _ _ (hblkN m o1 o2)
      have HBN := Lib.hid hblkN
      clear hblkN
      rw [hl] at hrun
      unfold fileV at hrun
      clear hl ho1 hsub
      go_wp2_with fail
      go_quiet (fail)
      have HWR := Lib.hid (show wrap64 ((S.files.length : Int) + 1) = (S.files.length : Int) + 1 from IntWalk.wrap64_in _ ⟨by omega, by omega⟩)
      clear hfl
      go_wp2_with fail
      rw [HWR.out]
      obtain ⟨w4, hw4⟩ : ∃ W0, W0 = ((((w1.drewN nq).alloc (.cells #[.int .i64 S.files.length, .slice none 0 0, .int .i64 0] 119)).setCell ⟨dd, 3, none⟩ (.int .i64 ((S.files.length : Int) + 1))).alloc (.cells #[.pointer (some ⟨w1.heap.size, 0, none⟩)] 117)) := ⟨_, rfl⟩
      rw [← hw4]
      have hmid := create_mid h1 nm hnm nq w.heap.size hw4 hbx1 hnl hpl
      refine hmid.mono ?_
      rintro e w5 ⟨rfl, ⟨P', h5, hP'⟩, ho5⟩
      clear hmid
      go_wp2_with fail
      go_ret
      have ho := HO.out
      exact ⟨by rw [HR.out]; rfl, ⟨P', by rw [HR.out]; exact h5, fun g hg => (hP' g hg).imp id (fun e => Nat.le_trans ho.size e)⟩, ⟨ho5.os.trans ho.os, ho5.tape.trans ho.tape, ho5.output.trans ho.output, Nat.le_trans ho.size ho5.size, fun k hk hnk => (ho5.block k (Nat.lt_of_lt_of_le hk ho.size) hnk).trans (ho.block k hk hnk)⟩⟩
  · have hz2 : (en == 0) = false := beq_eq_false_iff_ne.2 hz
    have hz3 : (en != 0) = true := by simp [bne, hz2]
    have HR := Lib.hid (show doP (absD S) (.create nm.data.toList) = (tickP (absD S), en) by rw [HD.out, if_pos hz])
    have HO := Lib.hid (hsub _ ho1)
    clear ho1 hsub
    go_wp2_with fail
    go_ret
    exact ⟨by rw [HR.out]; rfl, ⟨P, ⟨_, h1, by rw [HR.out, abs_tick]⟩, fun g hg => .inl hg⟩, HO.out⟩
end Go.Proofs.YtheoklhmlnfgjaaGreatDoor
/-
  Sync, SyncNames, Remove, by the plain disk.
-/
namespace Go.Proofs.YtheoklhmlnfgjaaGreatDoor
open Go.RowKit Go.Maps

theorem modify_set {α : Type} (l : List α) (i : Nat) (u : α → α) (x : α) (h : l[i]? = some x) : l.modify i u = l.set i (u x) := by
  apply List.ext_getElem?
  intro j
  rw [List.getElem?_modify, List.getElem?_set]
  by_cases e : i = j
  · subst e
    have hi := (List.getElem?_eq_some_iff.1 h).1
    rw [h]; simp [hi]
  · simp [e]
theorem abs_setFile {S : DiskC} {i : Nat} {f f' : FileC} (hf : S.files[i]? = some f) (hb : f'.blk = f.blk) : absD { S with files := S.files.set i f' } = { absD S with files := (absD S).files.set i (f'.data, f'.firm) } := by
  have hn : noF (S.files.set i f') = noF S.files := noF_congr _ _ (by
    obtain ⟨hi, ei⟩ := List.getElem?_eq_some_iff.1 hf
    rw [List.map_set]
    apply List.ext_getElem (by simp)
    intro j h1 h2
    rw [List.getElem_set]
    split
    · rename_i e; subst e; rw [List.getElem_map, ei, hb]
    · rfl)
  unfold absD
  simp only [hn, List.map_set]
theorem abs_turn {S : DiskC} (hap : ApartF S.files) {k : BS} {g i : Nat} {f f' : FileC} (hl : lookN S.now k = some g) (hf : S.files[i]? = some f) (hg : f.blk = g) (hb : f'.blk = f.blk) (up : BS × Nat → BS × Nat) (hup : (f'.data, f'.firm) = up (f.data, f.firm)) :
    absD { beginS S with files := S.files.set i f' } = { tickP (absD S) with files := (absD S).files.modify (atP (absD S) k) up } := by
  have hr := beginS_rest S
  have e1 := abs_setFile (S := beginS S) (f' := f') (by rw [hr.2.2.1]; exact hf) hb
  rw [hr.2.2.1] at e1
  rw [e1, ← abs_tick]
  have ea : atP (absD S) k = i := by
    unfold atP
    rw [abs_look, hl]
    subst hg
    exact noF_at S.files i f hap hf
  rw [ea, modify_set _ i up (f.data, f.firm) (by unfold absD; simp [hf]), ← hup, (tick_rest (absD S)).2.2.1]

theorem onF_zero {S : DiskC} {L : List BS} {k : BS} {g : Nat} (h : onF S L k = some g) : lookN S.now k = some g ∧ onE S L k = 0 := by
  refine ⟨?_, (onE_F S L k).2 ⟨g, h⟩⟩
  unfold onF at h
  split at h
  · cases h
  · exact h
theorem onF_none {S : DiskC} {L : List BS} {k : BS} (h : onF S L k = none) : onE S L k ≠ 0 := fun e => by
  obtain ⟨g, e2⟩ := (onE_F S L k).1 e
  rw [h] at e2; cases e2
theorem do_sync {S : DiskC} (hap : ApartF S.files) (hnow : ∀ x ∈ S.now, HasFile S x.2) (k : BS) : absD (syncS S k) = (doP (absD S) (.sync k)).1 ∧ onE S [] k = (doP (absD S) (.sync k)).2 := by
  have hD : doP (absD S) (.sync k) = if onE S [] k ≠ 0 then (tickP (absD S), onE S [] k) else ({ tickP (absD S) with files := (absD S).files.modify (atP (absD S) k) fun x => (x.1, x.1.length) }, 0) := by rw [← abs_on]; rfl
  rw [hD]
  cases h : onF S [] k with
  | none =>
    rw [if_pos (onF_none h)]
    refine ⟨?_, rfl⟩
    unfold syncS
    rw [h, abs_tick]
  | some g =>
    obtain ⟨hl, hz⟩ := onF_zero h
    rw [hz, if_neg (by simp)]
    refine ⟨?_, rfl⟩
    unfold syncS
    rw [h]
    obtain ⟨f, hf, hg⟩ := hnow _ (lookN_mem _ _ _ hl)
    obtain ⟨i, hi, ei⟩ := List.getElem_of_mem hf
    have hfi : S.files[i]? = some f := by rw [List.getElem?_eq_getElem hi, ei]
    simp only
    rw [(beginS_rest S).2.2.1, setF_set g _ S.files i f hfi hg hap]
    exact abs_turn (f' := { f with firm := f.data.length }) hap hl hfi hg rfl (fun x => (x.1, x.1.length)) rfl
theorem sync_p {w : World} {P : Nat → Prop} {dd : Nat} {A : Pl} (h : DiskP w P dd A) (nm : ByteArray) (hnm : nm.size ≤ 140737488351232) (hfit : FitP A) :
    Calls Tryz.prog 48 #[.pointer (some ⟨dd, 0, none⟩), .string nm] w (StepPost w P dd A (.sync nm.data.toList)) := by
  obtain ⟨S, h, rfl⟩ := h
  refine (sync_any h nm hnm hfit.steps hfit.fails).mono ?_
  rintro e w' ⟨rfl, ⟨P', h', hP'⟩, ho⟩
  obtain ⟨e1, e2⟩ := do_sync h.apart h.nowF nm.data.toList
  exact ⟨by rw [e2], ⟨P', ⟨_, h', e1⟩, fun g hg => .inl (hP' g hg)⟩, ho⟩
theorem do_names (S : DiskC) (b : Nat) : absD (syncNamesS S b) = (doP (absD S) .names).1 ∧ beginE S [] = (doP (absD S) .names).2 := by
  have hD : doP (absD S) .names = if beginE S [] ≠ 0 then (tickP (absD S), beginE S []) else ({ tickP (absD S) with safe := (absD S).now, pend := [] }, 0) := rfl
  rw [hD]
  unfold syncNamesS
  by_cases h : beginE S [] = 0
  · rw [h, if_pos rfl, if_neg (by simp)]
    refine ⟨?_, rfl⟩
    rw [abs_tick]
    unfold absD
    simp only [(beginS_rest S).2.2.1, List.map_nil, (beginS_now S).1]
  · rw [if_neg h, if_pos h]
    exact ⟨(abs_tick S).symm, rfl⟩
theorem names_p {w : World} {P : Nat → Prop} {dd : Nat} {A : Pl} (h : DiskP w P dd A) (hfit : FitP A) :
    Calls Tryz.prog 49 #[.pointer (some ⟨dd, 0, none⟩)] w (StepPost w P dd A .names) := by
  obtain ⟨S, h, rfl⟩ := h
  refine (syncNames_any h hfit.steps hfit.fails).mono ?_
  rintro e w' ⟨rfl, ⟨b, P', h', hP'⟩, ho⟩
  obtain ⟨e1, e2⟩ := do_names S b
  exact ⟨by rw [e2], ⟨P', ⟨_, h', e1⟩, hP'⟩, ho⟩
theorem abs_len (S : DiskC) : (absD S).now.length = S.now.length ∧ (absD S).pend.length = S.pend.length ∧ (absD S).files.length = S.files.length ∧ (absD S).safe.length = S.safe.length := by
  unfold absD mapN
  simp
theorem do_chg (S : DiskC) (c : Chg) (pv : Value) (vs : List Value) : absD { beginS S with now := applyC c S.now, pend := (beginS S).pend ++ [c], pvals := vs, pv := pv } = chgP (absD S) (mapC (noF S.files) c) := by
  have := abs_chg (beginS S) c pv vs
  rw [(beginS_now S).1] at this
  rw [this, ← abs_tick]
  have ht := tick_rest (absD S)
  unfold chgP
  rw [ht.1, ht.2.1, (beginS_rest S).2.2.1]
theorem remove_p {w : World} {P : Nat → Prop} {dd : Nat} {A : Pl} (h : DiskP w P dd A) (nm : ByteArray) (hnm : nm.size ≤ 140737488351232) (hfit : FitP A) :
    Calls Tryz.prog 42 #[.pointer (some ⟨dd, 0, none⟩), .string nm] w (StepPost w P dd A (.remove nm.data.toList)) := by
  obtain ⟨S, h, rfl⟩ := h
  have hn := hfit.now
  have hp := hfit.pend
  rw [(abs_len S).1] at hn
  rw [(abs_len S).2.1] at hp
  refine (remove_any h nm hnm hfit.steps hfit.fails hn hp).mono ?_
  rintro e w' ⟨rfl, ⟨P', hP', h'⟩, ho⟩
  have hD : doP (absD S) (.remove nm.data.toList) = if onE S [] nm.data.toList ≠ 0 then (tickP (absD S), onE S [] nm.data.toList) else (chgP (absD S) (.del nm.data.toList), 0) := by rw [← abs_on]; rfl
  rcases h' with ⟨hz, h'⟩ | ⟨hz, pv', v, h'⟩
  · rw [if_pos hz] at hD
    exact ⟨by rw [hD], ⟨P', ⟨_, h', by rw [hD, abs_tick]⟩, hP'⟩, ho⟩
  · rw [hz, if_neg (by simp)] at hD
    exact ⟨by rw [hD, hz], ⟨P', ⟨_, h', by rw [hD]; exact do_chg S (.del nm.data.toList) pv' _⟩, hP'⟩, ho⟩
end Go.Proofs.YtheoklhmlnfgjaaGreatDoor
/-
  Rename: another name for a file.
-/
namespace Go.Proofs.YtheoklhmlnfgjaaGreatDoor
open Go.RowKit Go.Maps

set_option maxHeartbeats 4000000 in
set_option maxRecDepth 100000 in
theorem rename_p {w : World} {P : Nat → Prop} {dd : Nat} {A : Pl} (h : DiskP w P dd A) (na nb : ByteArray) (hna : na.size ≤ 140737488351232) (hnb : nb.size ≤ 140737488351232) (hfit : FitP A) :
    Calls Tryz.prog 64 #[.pointer (some ⟨dd, 0, none⟩), .string na, .string nb] w (StepPost w P dd A (.rename na.data.toList nb.data.toList)) := by
  obtain ⟨S, h, rfl⟩ := h
  have hmf : ∀ (fn : Fn) (first cap : Array Value) (w : World), (Instr.makeFunc fn first cap).run Tryz.prog w = .ok (.func fn first cap) w := fun _ _ _ _ => rfl
  obtain ⟨f1, f2, f3, f4, f5, f6, f7, f8⟩ := hfit
  have hnl : S.now.length ≤ 4000000000000 := by rw [← (abs_len S).1]; exact f3
  have hpl : S.pend.length ≤ 1000000 := by rw [← (abs_len S).2.1]; exact f2
  clear f2 f3 f4 f5 f7 f8
  obtain ⟨wa, hwa⟩ : ∃ W0, W0 = ((w.alloc (.cells #[.string na] 9)).alloc (.cells #[.string nb] 9)).alloc (.cells #[.string nb] 9) := ⟨_, rfl⟩
  have hba : Below w.heap.size w wa := by rw [hwa]; exact (((Below.refl _ w).alloc (Nat.le_refl _) _).alloc (by simp) _).alloc (by simp; omega) _
  have hrow : OwnS wa w.heap.size (.slice (some ⟨w.heap.size + 1 + 1, 0, none⟩) 1 1) [nb.data.toList] := by
    rw [hwa]
    have := World.ownsRow_lit (e := 9) (size := 1) ((w.alloc (.cells #[.string na] 9)).alloc (.cells #[.string nb] 9)) #[.string nb] 1 (Nat.le_refl _) (by unfold maxLen; omega) rfl
    unfold OwnS
    have e : tx [nb.data.toList] = [Value.string nb] := by simp [tx]
    refine ownsRow_mono (base := w.heap.size + 1 + 1) ?_ (by omega)
    rw [e]
    simpa using this
  have hon := on_any h hba na hna (.slice (some ⟨w.heap.size + 1 + 1, 0, none⟩) 1 1) [nb.data.toList] hrow (by simp) (fun x hx => by rw [List.mem_singleton.1 hx, size_list]; exact hnb) f1 f6
  have sza : wa.heap.size = w.heap.size + 3 := by rw [hwa]; simp
  have ba : wa.heap[w.heap.size]? = some (.cells #[.string na] 9 (0, 0)) := by
    rw [hwa]
    exact (heap_alloc_old _ _ (by simp; omega)).trans ((heap_alloc_old _ _ (by simp)).trans (heap_alloc_new w _))
  have bb : wa.heap[w.heap.size + 1]? = some (.cells #[.string nb] 9 (0, 0)) := by
    rw [hwa]
    have := heap_alloc_new (w.alloc (.cells #[.string na] 9)) (.cells #[.string nb] 9)
    rw [World.size_alloc] at this
    exact (heap_alloc_old _ _ (by simp)).trans this
  rw [hwa] at hon
  have HWA := Lib.hid hwa
  have HSZ := Lib.hid sza
  clear hrow hwa hba sza
  have hD : doP (absD S) (.rename na.data.toList nb.data.toList) = if onE S [nb.data.toList] na.data.toList ≠ 0 then (tickP (absD S), onE S [nb.data.toList] na.data.toList) else if na.data.toList = nb.data.toList then (tickP (absD S), 0) else (chgP (absD S) (.ren na.data.toList nb.data.toList (atP (absD S) na.data.toList)), 0) := by rw [← abs_on]; rfl
  have hif := onE_F S [nb.data.toList] na.data.toList
  obtain ⟨en, hen⟩ : ∃ en, en = onE S [nb.data.toList] na.data.toList := ⟨_, rfl⟩
  rw [← hen] at hon hD hif
  have HD := Lib.hid hD
  have HIF := Lib.hid hif
  clear hen hD hif
  obtain ⟨fo, hfo⟩ : ∃ fo, fo = onF S [nb.data.toList] na.data.toList := ⟨_, rfl⟩
  rw [← hfo] at hon
  obtain ⟨q, hq⟩ : ∃ q, fileV fo = .pointer q := by cases fo <;> exact ⟨_, rfl⟩
  rw [hq] at hon
  have HFO := Lib.hid hfo
  have HQ := Lib.hid hq
  clear hfo hq
  have hdd : dd < w.heap.size := lt_of_heap h.blk
  have hs0 := size_list na
  have hs1 := size_list nb
  have ca : (((w.alloc (.cells #[.string na] 9)).alloc (.cells #[.string nb] 9))).cell? ⟨w.heap.size, 0, none⟩ = some (.string na) := by
    rw [cell_of_row _ _ _ _ _ _ ((heap_alloc_old _ _ (by simp)).trans (heap_alloc_new w _))]; rfl
  go_enter Tryz.func64, Tryz.ntmps64
  go_wp2_with fail
  refine hon.mono ?_
  rintro e w1 ⟨rfl, h1, ho0, ho1⟩
  clear hon
  have hdd1 : dd < w1.heap.size := lt_of_heap h1.blk
  have sz1 := ho1.size
  simp only [World.size_alloc] at sz1
  have ba1 : w1.heap[w.heap.size]? = some (.cells #[.string na] 9 (0, 0)) := by
    rw [← HWA.out] at ho1
    refine (ho1.block w.heap.size (by rw [HSZ.out]; omega) (fun e => ?_)).trans ba
    rcases e with e | e
    · omega
    · have e : some (w.heap.size + 1 + 1) = some w.heap.size := e
      injection e with e; omega
  have bb1 : w1.heap[w.heap.size + 1]? = some (.cells #[.string nb] 9 (0, 0)) := by
    rw [← HWA.out] at ho1
    refine (ho1.block (w.heap.size + 1) (by rw [HSZ.out]; omega) (fun e => ?_)).trans bb
    rcases e with e | e
    · omega
    · have e : some (w.heap.size + 1 + 1) = some (w.heap.size + 1) := e
      injection e with e; omega
  have ca1 : ∀ o, (w1.alloc o).cell? ⟨w.heap.size, 0, none⟩ = some (.string na) := fun o => by
    rw [cell_of_row _ _ _ _ _ _ ((heap_alloc_old _ _ (lt_of_heap ba1)).trans ba1)]; rfl
  have cb1 : ∀ o, (w1.alloc o).cell? ⟨w.heap.size + 1, 0, none⟩ = some (.string nb) := fun o => by
    rw [cell_of_row _ _ _ _ _ _ ((heap_alloc_old _ _ (lt_of_heap bb1)).trans bb1)]; rfl
  have hsub : Only P w w1 := ⟨ho0.os, ho0.tape, ho0.output, ho0.size, fun k hk hnk => ho0.block k hk (fun e => hnk (by rw [e]; exact h.inP.1))⟩
  have HO := Lib.hid hsub
  clear hsub
  have HS1 := Lib.hid sz1
  clear ho0 ho1 ba bb sz1 hs0 hs1 ca
  by_cases hz : en = 0
  · subst hz
    by_cases hab : na.data.toList = nb.data.toList
    · have hbool : (na.toList == nb.toList) = true := by rw [strs_eq]; exact decide_eq_true hab
      have HR := Lib.hid (show doP (absD S) (.rename na.data.toList nb.data.toList) = (tickP (absD S), 0) by rw [HD.out, if_neg (by simp), if_pos hab])
      clear hab
      go_wp2_with fail
      go_ret
      exact ⟨by rw [HR.out]; rfl, ⟨P, ⟨_, h1.below ((Below.refl _ w1).alloc (Nat.le_refl _) _), by rw [HR.out, abs_tick]⟩, fun g hg => .inl hg⟩, HO.out.alloc _⟩
    · have hbool : (na.toList == nb.toList) = false := by rw [strs_eq]; exact decide_eq_false hab
      have HR := Lib.hid (show doP (absD S) (.rename na.data.toList nb.data.toList) = (chgP (absD S) (.ren na.data.toList nb.data.toList (atP (absD S) na.data.toList)), 0) by rw [HD.out, if_neg (by simp), if_neg hab])
      clear hab
      obtain ⟨g, hg⟩ := HIF.out.1 rfl
      have hfg : fo = some g := HFO.out.trans hg
      have hqg : q = some ⟨g, 0, none⟩ := by
        have := HQ.out
        rw [hfg] at this
        unfold fileV at this
        injection this with this
        exact this.symm
      subst hqg
      have hlk := (onF_zero hg).1
      obtain ⟨wf, hwf⟩ : ∃ W0, W0 = w1.alloc (.cells #[.pointer (some ⟨g, 0, none⟩)] 117) := ⟨_, rfl⟩
      have hbf : Below w1.heap.size w1 wf := by rw [hwf]; exact (Below.refl _ w1).alloc (Nat.le_refl _) _
      have bf1 : wf.heap[w1.heap.size]? = some (.cells #[.pointer (some ⟨g, 0, none⟩)] 117 (0, 0)) := by rw [hwf]; exact heap_alloc_new w1 _
      have h1f := h1.below hbf
      have hchg : IsChg wf (.func (.func 87) #[] #[.pointer (some ⟨w.heap.size, 0, none⟩), .pointer (some ⟨w1.heap.size, 0, none⟩), .pointer (some ⟨w.heap.size + 1, 0, none⟩)]) (.ren na.data.toList nb.data.toList g) :=
        ⟨w.heap.size, w1.heap.size, w.heap.size + 1, na, nb, rfl, rfl, by unfold maxLen; omega, by unfold maxLen; omega, rfl, Below.heap hbf ba1, bf1, Below.heap hbf bb1⟩
      have hfile : HasFile (beginS S) g := by
        obtain ⟨f, hf, e⟩ := h1.nowF (na.data.toList, g) (by rw [(beginS_now S).1]; exact lookN_mem _ _ _ hlk)
        exact ⟨f, hf, e⟩
      have halt := alter_any h1f _ _ hchg hfile (by rw [(beginS_now S).1]; exact hnl) (by rw [(beginS_rest S).2.1]; exact hpl)
      rw [hwf] at halt
      have HSF := Lib.hid (show w1.heap.size ≤ wf.heap.size from hbf.size)
      have HBF := Lib.hid hbf
      have HW := Lib.hid hwf
      have hat : atP (absD S) na.data.toList = noF S.files g := by unfold atP; rw [abs_look, hlk]; rfl
      have HAT := Lib.hid hat
      clear hbf hwf hg hfg hat bf1 h1f hchg hfile hlk
      go_wp2_with fail
      refine halt.mono ?_
      rintro e w2 ⟨rfl, ⟨pv', P', h2, hP'⟩, ho2⟩
      clear halt
      go_wp2_with fail
      go_ret
      rw [← HW.out] at hP' ho2
      have ho := HO.out
      have hbf := HBF.out
      refine ⟨by rw [HR.out]; rfl, ⟨P', ⟨_, h2, ?_⟩, fun k hk => (hP' k hk).imp id (fun e => by have := ho.size; have := HSF.out; omega)⟩, ?_⟩
      · rw [HR.out, HAT.out]
        have := do_chg S (.ren na.data.toList nb.data.toList g) pv' ((beginS S).pvals ++ [.func (.func 87) #[] #[.pointer (some ⟨w.heap.size, 0, none⟩), .pointer (some ⟨w1.heap.size, 0, none⟩), .pointer (some ⟨w.heap.size + 1, 0, none⟩)]])
        rw [← (beginS_now S).1] at this
        exact this
      · exact ⟨ho2.os.trans (hbf.os.trans ho.os), ho2.tape.trans (hbf.tape.trans ho.tape), ho2.output.trans (hbf.output.trans ho.output), Nat.le_trans ho.size (Nat.le_trans hbf.size ho2.size), fun k hk hnk => ((ho2.block k (Nat.lt_of_lt_of_le hk (Nat.le_trans ho.size hbf.size)) hnk).trans (hbf.block k (Nat.lt_of_lt_of_le hk ho.size))).trans (ho.block k hk hnk)⟩
  · have hz2 : (en == 0) = false := beq_eq_false_iff_ne.2 hz
    have hz3 : (en != 0) = true := by simp [bne, hz2]
    have HR := Lib.hid (show doP (absD S) (.rename na.data.toList nb.data.toList) = (tickP (absD S), en) by rw [HD.out, if_pos hz])
    go_wp2_with fail
    go_ret
    exact ⟨by rw [HR.out]; rfl, ⟨P, ⟨_, h1.below ((Below.refl _ w1).alloc (Nat.le_refl _) _), by rw [HR.out, abs_tick]⟩, fun g hg => .inl hg⟩, HO.out.alloc _⟩
end Go.Proofs.YtheoklhmlnfgjaaGreatDoor
/-
  Used: the bytes of all files.
-/
namespace Go.Proofs.YtheoklhmlnfgjaaGreatDoor
open Go.RowKit Go.Maps

theorem fileR_form : ∀ v y, fileR v = some y → ∃ o : Option Nat, v = fileV o := by
  intro v y h
  unfold fileR at h
  split at h
  · exact ⟨none, rfl⟩
  · exact ⟨some _, rfl⟩
  · cases h
theorem keyOf_str_inv {key : Value} {kl : Lit} (h : keyOf Tryz.prog 9 key = some kl) : ∃ s : ByteArray, key = .string s ∧ kl = .string s.data.toList := by
  have hk := Tryz.underlying9
  cases key <;> simp [keyOf, hk, mapKey] at h
  rename_i s
  refine ⟨s, rfl, ?_⟩
  first | exact h.symm | exact h.2.symm | exact (h.2).symm

set_option maxHeartbeats 4000000 in
theorem used_any {w : World} {P : Nat → Prop} {dd : Nat} {S : DiskC} (h : DiskAt w P dd S) (hu : usedS S ≤ 1000000000000000) :
    Calls Tryz.prog 32 #[.pointer (some ⟨dd, 0, none⟩)] w fun e w' => e = .returned (.int .i64 (usedS S)) ∧ Below w.heap.size w w' := by
  have c0 : w.cell? ⟨dd, 0, none⟩ = some (.map (some S.bn)) := h.cell 0
  have H := Lib.hid h
  have hown := h.now.2
  have hri := Lib.hid h.now.1
  have hlt := h.now.lt
  clear h
  go_enter Tryz.func32, Tryz.ntmps32
  go_wp2_with (first
    | (at_range; refine wpList_range_own _ rfl _ 112 rfl 9 117 keyedS mapT fileR S.bn S.now.length (Dm S.now) rfl hown ?_; intro w0 hrg0 hg0 hs0)
    | go_in)
  go_frame
  go_loopw [3] (fun v wr => ∃ (left : Lit → Bool) (cnt : Nat), wr.ranges Tryz.prog 9 fileR S.bn w.heap.size S.now.length (Dm S.now) left cnt ∧ w.grownBy wr none ∧ v = .int .i64 (sumF (fun x => (datF S x.2).length) left S.now))
    (fun _ wr => wr.rangeLeft S.bn w.heap.size)
  case atStart => exact ⟨_, _, hrg0, hg0, by rw [sumF_start _ _ _ (fun x hx => Dm_has_mem _ x hx)]; rfl⟩
  case round =>
    obtain ⟨left, cnt, hrg, hgw, rfl⟩ := hrel
    go_wp2_with (first
      | (at_next; refine wpList_next_ranges _ rfl _ rfl 9 keyedS fileR Value.string fileV (fun key kl hk => by obtain ⟨s, e, _⟩ := keyOf_str_inv hk; exact ⟨s, e⟩) fileR_form S.bn w.heap.size S.now.length _ _ _ rfl hrg ?_ ?_)
      | go_in)
    · intro _ hl0
      go_wp2_with fail
      go_ret
      exact ⟨ret_int (by rw [sumF_end _ _ hl0]; rfl), ⟨hgw.os, hgw.tape, hgw.output, hgw.size, fun k hk => hgw.block k hk (by simp)⟩⟩
    · intro x c kl y yp w1 cnt1 hkey hlx hv hat hrg1 hlt1 hg1 hs1 hen
      obtain ⟨x', ex, rfl⟩ := keyOf_str_inv hkey
      injection ex with ex
      subst ex
      rw [fileR_mk] at hv
      injection hv with hv
      injection hv with hv _
      subst hv
      obtain ⟨b, rfl, hmem⟩ := Dm_mem hat
      obtain ⟨f, hf, hfb⟩ := H.out.nowF _ hmem
      have hd : datF S b = f.data := by have := datF_mem H.out.apart hf; rw [hfb] at this; exact this
      simp only at hfb
      subst hfb
      obtain ⟨j, hj, ej⟩ := List.getElem_of_mem hf
      obtain ⟨b1, b2, b3, b4, b5⟩ := H.out.files j f (by rw [List.getElem?_eq_getElem hj, ej])
      obtain ⟨pv, cv, hval, _, _, _⟩ := b2.in8n rfl
      have hgw1 : w.grownBy w1 none := hgw.andThen hg1 (fun j hj => by cases hj; exact Or.inl (Nat.le_refl _))
      have hb1 : w1.heap[f.blk]? = some (.cells #[.int .i64 j, f.val, .int .i64 f.firm] 119 (0, 0)) := (hgw1.block _ (lt_of_heap b1) (by simp)).trans b1
      have c1 : w1.cell? ⟨f.blk, 1, none⟩ = some (.slice pv f.data.length cv) := by rw [cell_of_row _ _ _ _ _ _ hb1, ← hval]; rfl
      have hstep := sumF_step (fun x => (datF S x.2).length) left x.data.toList f.blk hlx S.now hri.out hmem
      have hle := sumF_le (fun x => (datF S x.2).length) (fun z => left z && !z.sameKey (.string x.data.toList)) S.now
      have hus : sumF (fun x => (datF S x.2).length) (fun z => left z && !z.sameKey (.string x.data.toList)) S.now ≤ usedS S := hle
      simp only [hd] at hstep
      obtain ⟨n0, hn0⟩ : ∃ n0, n0 = sumF (fun x => (datF S x.2).length) left S.now := ⟨_, rfl⟩
      rw [← hn0] at hstep ⊢
      have HST := Lib.hid hstep
      have hb0 : n0 + f.data.length ≤ 1000000000000000 := by omega
      have HRG := Lib.hid hrg
      clear hat hmem hstep hle hus hn0 hrg b2 hd
      unfold fileV at hen
      go_wp2_with fail
      go_roundw
      case rel => exact ⟨_, _, hrg1, hgw1, by rw [HST.out]; go_num⟩
      case measure => rw [hrg1.left_eq, HRG.out.left_eq]; exact hlt1
end Go.Proofs.YtheoklhmlnfgjaaGreatDoor
/-
  Append: data behind a file's bytes.
-/
namespace Go.Proofs.YtheoklhmlnfgjaaGreatDoor
open Go.RowKit Go.Maps

theorem wpList_append8y {w : World} {ops : Array Oper} {rest : List Oper} {o : Oper} {a : Act} {Q : Exit → Act → World → Prop} (hgd : o.guard = none) (s x : Operand)
    (ho : o.op = .call { callee := .builtin .append, args := #[s, x], argTypes := #[22, 22] })
    (base : Nat) (v : Value) (l : List UInt8) (hv : a.eval s = v) (hown : Own8 w base v l)
    (p : Option Addr) (m c : Nat) (l2 : List UInt8) (hm : l2.length = m) (hx : a.eval x = .slice p m c) (hin : In8 w p l2)
    (hr : l.length + m ≤ 140737488355328) (hbase : base ≤ w.heap.size)
    (h : ∀ v' w', Own8 w' base v' (l ++ l2) → w.grownBy w' v.ownBlock → Way w v v' → wpList Tryz.prog ops Q rest (a.put o.dst v') w') : wpList Tryz.prog ops Q (o :: rest) a w := by
  subst hm
  refine wpList_append_way w hgd s x 22 22 ho base 5 (.int .u8 0) 1 1 Tryz.underlying22 info8 rfl v l.length (by8 l) hv hown _ l2.length (by8 l2) hx (Src.of8 hin) (by unfold maxLen; omega) (by omega) hbase ?_
  intro v' w' ho' hg hn
  exact h v' w' (by unfold Own8; rw [List.length_append, by8_append]; exact ho') hg hn

theorem dat_le_used {S : DiskC} {x : BS × Nat} (h : x ∈ S.now) : (datF S x.2).length ≤ usedS S := by
  unfold usedS
  obtain ⟨s, t, e⟩ := List.append_of_mem h
  rw [e, List.map_append, List.sum_append, List.map_cons, List.sum_cons]
  omega
theorem usedS_begin (S : DiskC) : usedS (beginS S) = usedS S := by
  unfold beginS
  split <;> rfl

theorem append_fin {w1 W W' W2 : World} {P : Nat → Prop} {dd i : Nat} {S : DiskC} {f : FileC} {k l : BS} {v' : Value} (h1 : DiskAt w1 P dd (beginS S)) (hb : Below w1.heap.size w1 W) (hfi : (beginS S).files[i]? = some f) (hl : lookN S.now k = some f.blk)
    (hown : Own8 W' 0 v' (f.data ++ l)) (hg : W.grownBy W' f.val.ownBlock) (hway : Way W f.val v') (h2 : W2 = W'.setCell ⟨f.blk, 1, none⟩ v') :
    (∃ P', DiskP W2 P' dd { tickP (absD S) with files := (absD S).files.modify (atP (absD S) k) fun x => (x.1 ++ l, x.2) } ∧ ∀ g, P' g → P g ∨ w1.heap.size ≤ g) ∧ Only P w1 W2 := by
  have h := h1.below hb
  obtain ⟨b1, b2, b3, b4, b5⟩ := h.files i f hfi
  have hne := row_ne b2 b1 (by decide)
  have hs := hg.size
  have hblk' : W'.heap[f.blk]? = some (.cells #[.int .i64 i, f.val, .int .i64 f.firm] 119 (0, 0)) := (hg.block _ (lt_of_heap b1) (fun e => hne e.symm)).trans b1
  have hcell : W2.heap[f.blk]? = some (.cells #[.int .i64 i, v', .int .i64 f.firm] 119 (0, 0)) := by
    rw [h2]
    simp only [World.setCell, Array.getElem?_modify, hblk']
    simp
  have hother : ∀ g, g ≠ f.blk → W2.heap[g]? = W'.heap[g]? := fun g hg => by rw [h2]; exact Below.heap_setCell _ _ _ _ hg
  have hE : Else2 W W2 f.blk f.val.ownBlock := fun g hgl h3 h4 => (hother g h3).trans (hg.block g hgl h4)
  have hE2 : Else W' W2 f.blk := fun g hg => hother g hg
  have hway2 : ∀ r, v'.ownBlock = some r → f.val.ownBlock = some r ∨ W.heap.size ≤ r := fun r hr => hway r hr
  have hown2 : Own8 W2 0 v' (f.data ++ l) := rowElse hown hE2 (row_ne hown hblk' (by decide))
  have hd := h.setFile (f' := { f with val := v', data := f.data ++ l }) hfi rfl hcell hE hown2 hway2 (by show f.firm ≤ (f.data ++ l).length; rw [List.length_append]; omega)
  have hr := (beginS_rest S).2.2.1
  have hfi' : S.files[i]? = some f := by rw [← hr]; exact hfi
  have hap : ApartF S.files := by rw [← hr]; exact h1.apart
  refine ⟨⟨_, ⟨_, hd, ?_⟩, fun g hg => ?_⟩, ?_⟩
  · rw [hr]
    exact abs_turn (f' := { f with val := v', data := f.data ++ l }) hap hl hfi' rfl rfl (fun x => (x.1 ++ l, x.2)) rfl
  · rcases hg with hg | hg
    · exact .inl hg
    · rcases hway2 g hg with e | e
      · exact .inl (b3 g e)
      · exact .inr (Nat.le_trans hb.size e)
  · refine ⟨?_, ?_, ?_, ?_, fun g hgl hng => ?_⟩
    · rw [h2]; exact hg.os.trans hb.os
    · rw [h2]; exact hg.tape.trans hb.tape
    · rw [h2]; exact hg.output.trans hb.output
    · rw [h2]; have := hb.size; simp only [World.setCell]; simp; omega
    · exact (hE g (Nat.lt_of_lt_of_le hgl hb.size) (fun e => hng (by rw [e]; exact b4)) (fun e => hng (b3 g e.symm))).trans (hb.block g hgl)

set_option maxRecDepth 100000 in
set_option maxHeartbeats 4000000 in
theorem append_p {w : World} {P : Nat → Prop} {dd : Nat} {A : Pl} (h : DiskP w P dd A) (nm : ByteArray) (hnm : nm.size ≤ 140737488351232) (l : BS) (p : Option Addr) (n c : Nat) (hn : l.length = n) (hl : n ≤ 140737488351232) (hin : In8 w p l) (hfit : FitP A) :
    Calls Tryz.prog 61 #[.pointer (some ⟨dd, 0, none⟩), .string nm, .slice p n c] w (StepPost w P dd A (.append nm.data.toList l)) := by
  obtain ⟨S, h, rfl⟩ := h
  subst hn
  have hus := hfit.used
  rw [abs_used h.nowF] at hus
  have hroom := hfit.room
  have hon := on_any h (Below.refl _ w) nm hnm (.slice none 0 0) [] (OwnS.nil _ _) (by simp) (by simp) hfit.steps hfit.fails
  have hif := onE_F S [] nm.data.toList
  have hD : doP (absD S) (.append nm.data.toList l) = if onE S [] nm.data.toList ≠ 0 then (tickP (absD S), onE S [] nm.data.toList) else if 0 < l.length ∧ S.room < usedS S + l.length then (tickP (absD S), 92) else ({ tickP (absD S) with files := (absD S).files.modify (atP (absD S) nm.data.toList) fun x => (x.1 ++ l, x.2) }, 0) := by
    rw [← abs_on, ← abs_used h.nowF]
    rfl
  obtain ⟨en, hen⟩ : ∃ en, en = onE S [] nm.data.toList := ⟨_, rfl⟩
  rw [← hen] at hon hif hD
  have HD := Lib.hid hD
  have hsub : ∀ w', Only (fun g => g = dd) w w' → Only P w w' := fun w' ho => ⟨ho.os, ho.tape, ho.output, ho.size, fun k hk hne => ho.block k hk (fun e => hne (by rw [e]; exact h.inP.1))⟩
  have HSUB := Lib.hid hsub
  clear hen hsub hD
  cases hf : onF S [] nm.data.toList with
  | none =>
    have hz : ¬ en = 0 := fun e => by obtain ⟨g, e2⟩ := hif.1 e; rw [hf] at e2; cases e2
    have hz2 : (en == 0) = false := beq_eq_false_iff_ne.2 hz
    have hz3 : (en != 0) = true := by simp [bne, hz2]
    have HR := Lib.hid (show doP (absD S) (.append nm.data.toList l) = (tickP (absD S), en) by rw [HD.out, if_pos hz])
    rw [hf] at hon
    clear hif hf
    go_enter Tryz.func61, Tryz.ntmps61
    go_wp2_with fail
    refine hon.mono ?_
    rintro e w1 ⟨rfl, h1, ho1, _⟩
    clear hon
    go_wp2_with fail
    go_ret
    exact ⟨by rw [HR.out]; rfl, ⟨P, ⟨_, h1, by rw [HR.out, abs_tick]⟩, fun _ hg => .inl hg⟩, HSUB.out _ ho1⟩
  | some g =>
    have hz : en = 0 := hif.2 ⟨g, hf⟩
    subst hz
    have hnow := (onF_zero hf).1
    have hmem := lookN_mem _ _ _ hnow
    rw [hf] at hon
    unfold fileV at hon
    have HL := Lib.hid hnow
    have HAP := Lib.hid h.apart
    clear hif hf hnow
    go_enter Tryz.func61, Tryz.ntmps61
    go_wp2_with fail
    refine hon.mono ?_
    rintro e w1 ⟨rfl, h1, ho1, _⟩
    clear hon
    have hin1 : In8 w1 p l := by
      intro h0
      obtain ⟨b, o, e, hc⟩ := hin h0
      refine ⟨b, o, e, fun i hi => ?_⟩
      have hck := hc i hi
      have hlt := World.block_lt_of_cell? w _ hck
      have hbd : b ≠ dd := by
        rintro rfl
        have h2 := h.cell (o + i)
        rw [h2] at hck
        unfold diskCells at hck
        obtain ⟨a, c', e⟩ := h.pvForm
        rw [e, h.fails.1] at hck
        have : o + i = 0 ∨ o + i = 1 ∨ o + i = 2 ∨ o + i = 3 ∨ o + i = 4 ∨ o + i = 5 ∨ o + i = 6 ∨ o + i = 7 := by
          have := (Array.getElem?_eq_some_iff.1 hck).1
          simp at this
          omega
        rcases this with e | e | e | e | e | e | e | e <;> rw [e] at hck <;> simp at hck
      have := ho1.block b hlt hbd
      simp only [World.cell?, this]
      exact hck
    have hmem1 : (nm.data.toList, g) ∈ (beginS S).now := by rw [(beginS_now S).1]; exact hmem
    obtain ⟨f, hfm, hfg⟩ := h1.nowF _ hmem1
    obtain ⟨i, hi, ei⟩ := List.getElem_of_mem hfm
    have hfi : (beginS S).files[i]? = some f := by rw [List.getElem?_eq_getElem hi, ei]
    simp only at hfg
    subst hfg
    have hdat : f.data.length ≤ usedS S := by
      have h2 := dat_le_used hmem
      have h3 := datF_mem h1.apart hfm
      have h4 : datF S f.blk = datF (beginS S) f.blk := by unfold datF; rw [(beginS_rest S).2.2.1]
      rw [h4, h3] at h2
      exact h2
    have hus1 : usedS (beginS S) = usedS S := usedS_begin S
    have hu := used_any h1 (by rw [hus1]; omega)
    rw [hus1] at hu
    have c4 : w1.cell? ⟨dd, 4, none⟩ = some (.int .i64 S.room) := by rw [h1.cell 4]; show some (Value.int .i64 ((beginS S).room : Int)) = _; rw [(beginS_rest S).2.2.2.1]
    have H1 := Lib.hid h1
    have HO := Lib.hid (HSUB.out _ ho1)
    have HN := Lib.hid (And.intro hfi hdat)
    have hroom' : (S.room : Int) ≤ 1073741824 := by have : S.room ≤ 1073741824 := hroom; omega
    clear hmem hmem1 hfm hi ei hroom
    obtain ⟨u, hu0⟩ : ∃ u, u = usedS S := ⟨_, rfl⟩
    rw [← hu0] at hu hus
    have HU0 := Lib.hid hu0
    clear hu0 hus1 hdat
    by_cases h0 : 0 < l.length
    · have hgt : decide (0 < (l.length : Int)) = true := decide_eq_true (by omega)
      have hS0 : w1.drew.cell? ⟨dd, 4, none⟩ = some (.int .i64 S.room) ∧ Below w1.heap.size w1 w1.drew := ⟨c4, (Below.refl _ w1).drew⟩
      have HK0 := Lib.hid hS0
      have HU := Lib.hid (fun W (hW : W.cell? ⟨dd, 4, none⟩ = some (.int .i64 S.room) ∧ Below w1.heap.size w1 W) => show Calls Tryz.prog 32 #[.pointer (some ⟨dd, 0, none⟩)] W fun e w' => e = .returned (.int .i64 u) ∧ w'.cell? ⟨dd, 4, none⟩ = some (.int .i64 S.room) ∧ Below w1.heap.size w1 w' from by
        have hq := used_any (H1.out.below hW.2) (by rw [usedS_begin, ← HU0.out]; omega)
        rw [usedS_begin, ← HU0.out] at hq
        refine hq.mono ?_
        rintro e w' ⟨rfl, hb⟩
        exact ⟨rfl, cell_keep hW.1 hb, hW.2.trans (hb.mono hW.2.size)⟩)
      have HWR := Lib.hid (show IntKind.i64.wrap ((u : Int) + (l.length : Int)) = (u : Int) + (l.length : Int) by rw [IntKind.wrap_i64]; omega)
      clear hu hin hS0
      by_cases hfull : S.room < u + l.length
      · have HR := Lib.hid (show doP (absD S) (.append nm.data.toList l) = (tickP (absD S), 92) by rw [HD.out, if_neg (by simp), if_pos (by rw [← HU0.out]; exact ⟨h0, hfull⟩)])
        have hcmp : decide ((S.room : Int) < (u : Int) + (l.length : Int)) = true := decide_eq_true (by omega)
        have HCMP := Lib.hid hcmp
        clear hfull hcmp
        go_wp2_with fail
        go_region_held3 (fun W => W.cell? ⟨dd, 4, none⟩ = some (.int .i64 S.room) ∧ Below w1.heap.size w1 W)
          (first | (with_reducible exact HK0.out) | (with_reducible exact HK1.out))
          (first | (go_at_call 32; with_reducible refine (HU.out _ HK0.out).mono ?_; rintro e w2 ⟨rfl, hk⟩; have HK1 := Lib.hid hk; clear hk))
        all_goals
          rw [HWR.out, HCMP.out]
          have hb := HK1.out.2
          go_wp2_with fail
          go_ret
          have ho := HO.out
          exact ⟨by rw [HR.out]; rfl, ⟨P, ⟨_, H1.out.below hb, by rw [HR.out, abs_tick]⟩, fun g hg => .inl hg⟩, ⟨hb.os.trans ho.os, hb.tape.trans ho.tape, hb.output.trans ho.output, Nat.le_trans ho.size hb.size, fun k hk hnk => (hb.block k (Nat.lt_of_lt_of_le hk ho.size)).trans (ho.block k hk hnk)⟩⟩
      · have HR := Lib.hid (show doP (absD S) (.append nm.data.toList l) = ({ tickP (absD S) with files := (absD S).files.modify (atP (absD S) nm.data.toList) fun x => (x.1 ++ l, x.2) }, 0) by rw [HD.out, if_neg (by simp), if_neg (by rw [← HU0.out]; exact fun e => hfull e.2)])
        have hcmp : decide ((S.room : Int) < (u : Int) + (l.length : Int)) = false := decide_eq_false (by omega)
        have HCMP := Lib.hid hcmp
        have hlenD : f.data.length + l.length ≤ 140737488355328 := by have := HN.out.2; have := HU0.out; omega
        clear hfull hcmp
        go_wp2_with fail
        go_region_held3 (fun W => W.cell? ⟨dd, 4, none⟩ = some (.int .i64 S.room) ∧ Below w1.heap.size w1 W)
          (first | (with_reducible exact HK0.out) | (with_reducible exact HK1.out))
          (first | (go_at_call 32; with_reducible refine (HU.out _ HK0.out).mono ?_; rintro e w2 ⟨rfl, hk⟩; have HK1 := Lib.hid hk; clear hk))
        all_goals
          rw [HWR.out, HCMP.out]
          have hb := HK1.out.2
          obtain ⟨b1, b2, b3, b4, b5⟩ := (H1.out.below hb).files i f HN.out.1
          have hne := row_ne b2 b1 (by decide)
          obtain ⟨pv, cv, hval, _, _, _⟩ := b2.in8n rfl
          have c1 : w2.cell? ⟨f.blk, 1, none⟩ = some (.slice pv f.data.length cv) := by rw [cell_of_row _ _ _ _ _ _ b1, ← hval]; rfl
          have hin2 := hin1.below hb
          have hown2 : Own8 w2 0 (.slice pv f.data.length cv) f.data := by rw [← hval]; exact b2
          have hne2 : (Value.slice pv f.data.length cv).ownBlock ≠ some f.blk := by rw [← hval]; exact hne
          have HB1 := Lib.hid b1
          have HV := Lib.hid hval
          clear b1 b2 b3 b4 b5 hval hne
          go_wp2_with (
            at_builtin
            refine wpList_append8y rfl _ _ rfl 0 _ f.data rfl hown2 _ _ _ l rfl rfl hin2 (by omega) (Nat.zero_le _) ?_
            intro v3 w3 hown3 hgrow3 hway3
            have f3 := frozen_of_row w3 f.blk 1 _ _ ((hgrow3.block _ (lt_of_heap HB1.out) (fun e => hne2 e.symm)).trans HB1.out)
            have d3 : w3.cell? ⟨f.blk, 1, none⟩ = some (.slice pv f.data.length cv) := by rw [cell_of_row _ _ _ _ _ _ ((hgrow3.block _ (lt_of_heap HB1.out) (fun e => hne2 e.symm)).trans HB1.out), HV.out]; rfl
            have HO3 := Lib.hid hown3
            obtain ⟨p3, c3, rfl, _, _, _⟩ := hown3.in8n (n := f.data.length + l.length) (by rw [List.length_append])
            have HG3 := Lib.hid hgrow3
            have HW3 := Lib.hid hway3
            clear hown3 hgrow3 hway3)
          go_ret
          have ho := HO.out
          have hg3 := HG3.out
          have hw3 := HW3.out
          rw [← HV.out] at hg3 hw3
          obtain ⟨⟨P', hd, hP'⟩, hon⟩ := append_fin (k := nm.data.toList) (l := l) H1.out hb HN.out.1 HL.out HO3.out hg3 hw3 rfl
          exact ⟨by rw [HR.out]; rfl, ⟨P', by rw [HR.out]; exact hd, fun k hk => (hP' k hk).imp id (fun e => Nat.le_trans ho.size e)⟩, ⟨hon.os.trans ho.os, hon.tape.trans ho.tape, hon.output.trans ho.output, Nat.le_trans ho.size hon.size, fun k hk hnk => (hon.block k (Nat.lt_of_lt_of_le hk ho.size) hnk).trans (ho.block k hk hnk)⟩⟩
    · have hl0 : l.length = 0 := by omega
      have hgt : decide (0 < (l.length : Int)) = false := decide_eq_false (by omega)
      have HR := Lib.hid (show doP (absD S) (.append nm.data.toList l) = ({ tickP (absD S) with files := (absD S).files.modify (atP (absD S) nm.data.toList) fun x => (x.1 ++ l, x.2) }, 0) by rw [HD.out, if_neg (by simp), if_neg (fun e => h0 e.1)])
      clear hu hin hgt
      obtain rfl : l = [] := List.eq_nil_of_length_eq_zero hl0
      clear hl0 h0
      obtain ⟨b1, b2, b3, b4, b5⟩ := H1.out.files i f HN.out.1
      have hne := row_ne b2 b1 (by decide)
      obtain ⟨pv, cv, hval, _, _, _⟩ := b2.in8n rfl
      have c1 : w1.cell? ⟨f.blk, 1, none⟩ = some (.slice pv f.data.length cv) := by rw [cell_of_row _ _ _ _ _ _ b1, ← hval]; rfl
      have hown2 : Own8 w1 0 (.slice pv f.data.length cv) f.data := by rw [← hval]; exact b2
      have hne2 : (Value.slice pv f.data.length cv).ownBlock ≠ some f.blk := by rw [← hval]; exact hne
      have HB1 := Lib.hid b1
      have HV := Lib.hid hval
      have hlenD : f.data.length ≤ 140737488355328 := by have := HN.out.2; have := HU0.out; omega
      clear b1 b2 b3 b4 b5 hval hne
      go_wp2_with fail
      go_quiet (fail)
      have hb : Below w1.heap.size w1 (w1.drewN nq) := bdrewN (Below.refl _ w1) _
      have hin2 := hin1.below hb
      have hown4 := hown2.below hb
      go_wp2_with (
        at_builtin
        refine wpList_append8y rfl _ _ rfl 0 _ f.data rfl hown4 _ _ _ [] rfl rfl hin2 (by simpa using hlenD) (Nat.zero_le _) ?_
        intro v3 w3 hown3 hgrow3 hway3
        have f3 := frozen_of_row w3 f.blk 1 _ _ ((hgrow3.block _ (lt_of_heap HB1.out) (fun e => hne2 e.symm)).trans HB1.out)
        have d3 : w3.cell? ⟨f.blk, 1, none⟩ = some (.slice pv f.data.length cv) := by rw [cell_of_row _ _ _ _ _ _ ((hgrow3.block _ (lt_of_heap HB1.out) (fun e => hne2 e.symm)).trans HB1.out), HV.out]; rfl
        have HO3 := Lib.hid hown3
        obtain ⟨p3, c3, rfl, _, _, _⟩ := hown3.in8n (n := f.data.length) (by simp)
        have HG3 := Lib.hid hgrow3
        have HW3 := Lib.hid hway3
        clear hown3 hgrow3 hway3)
      go_ret
      have ho := HO.out
      have hg3 := HG3.out
      have hw3 := HW3.out
      rw [← HV.out] at hg3 hw3
      obtain ⟨⟨P', hd, hP'⟩, hon⟩ := append_fin (k := nm.data.toList) (l := []) H1.out hb HN.out.1 HL.out HO3.out hg3 hw3 rfl
      exact ⟨by rw [HR.out]; rfl, ⟨P', by rw [HR.out]; exact hd, fun k hk => (hP' k hk).imp id (fun e => Nat.le_trans ho.size e)⟩, ⟨hon.os.trans ho.os, hon.tape.trans ho.tape, hon.output.trans ho.output, Nat.le_trans ho.size hon.size, fun k hk hnk => (hon.block k (Nat.lt_of_lt_of_le hk ho.size) hnk).trans (ho.block k hk hnk)⟩⟩

end Go.Proofs.YtheoklhmlnfgjaaGreatDoor
/-
  slices.Clone of bytes; List, Read: what only reads a disk's files.
-/
namespace Go.Proofs.YtheoklhmlnfgjaaGreatDoor
open Go.RowKit Go.Maps

set_option maxRecDepth 100000 in
set_option maxHeartbeats 1000000 in
theorem cloneB_any (l : List UInt8) (p : Option Addr) (n c : Nat) (hn : l.length = n) (hr : n ≤ 140737488355328) (hc : p = none → c = 0) (w : World) (h : In8 w p l) :
    Calls Tryz.prog 67 #[.slice p n c] w fun e w' => ∃ v, e = .returned v ∧ Own8 w' w.heap.size v l ∧ Below w.heap.size w w' := by
  subst hn
  cases p with
  | none =>
    have hl : l = [] := by
      by_cases h0 : 0 < l.length
      · obtain ⟨b, o, e, _⟩ := h h0; cases e
      · exact List.eq_nil_of_length_eq_zero (by omega)
    subst hl
    rw [hc rfl]
    have he : ∀ w : World, (binOp .eql 22 (.slice none 0 0) (.slice none 0 0)).run Tryz.prog w = .ok (.bool true) w := fun _ => rfl
    go_enter Tryz.func67, Tryz.ntmps67
    go_wp2_with fail
    go_ret
    exact ⟨_, rfl, Own8.nil _ _, Below.refl _ _⟩
  | some a =>
    have he : ∀ w : World, (binOp .eql 22 (.slice (some a) l.length c) (.slice none 0 0)).run Tryz.prog w = .ok (.bool false) w := fun _ => rfl
    have hin := h.alloc (.cells #[] 5)
    have hown := Own8.made w
    go_enter Tryz.func67, Tryz.ntmps67
    go_wp2_with (at_builtin; refine wpList_append8 rfl _ _ rfl w.heap.size _ [] rfl hown _ _ _ l rfl rfl hin (by simp; omega) (by simp) ?_; intro v1 w1 hown1 hgrow1 _)
    go_ret
    exact ⟨v1, rfl, hown1, ((Below.refl _ w).alloc (Nat.le_refl _) _).grown hgrow1 (by simp) (fun k e => by cases e; exact Nat.le_refl _)⟩

set_option maxHeartbeats 1000000 in
theorem list_p {w : World} {P : Nat → Prop} {dd : Nat} {A : Pl} (h : DiskP w P dd A) (hn : A.now.length ≤ 4000000000000) :
    Calls Tryz.prog 41 #[.pointer (some ⟨dd, 0, none⟩)] w fun e w' => ∃ v, e = .returned v ∧ OwnS w' w.heap.size v (listP A) ∧ Below w.heap.size w w' := by
  obtain ⟨S, h, rfl⟩ := h
  have hl : (absD S).now.length = S.now.length := by show (mapN _ _).length = _; unfold mapN; simp
  rw [hl] at hn
  have hnames : (absD S).now.map (·.1) = S.now.map (·.1) := by show (mapN _ _).map _ = _; unfold mapN; rw [List.map_map]; rfl
  have hdown := down_any h
  cases hd : downS S with
  | true =>
    rw [hd] at hdown
    have HL := Lib.hid (show listP (absD S) = [] by unfold listP; rw [abs_down, if_pos hd])
    clear hd hl hnames
    go_enter Tryz.func41, Tryz.ntmps41
    go_wp2_with fail
    refine hdown.mono ?_
    rintro e w1 ⟨rfl, hb1⟩
    clear hdown
    go_wp2_with fail
    go_ret
    exact ⟨_, rfl, by rw [HL.out]; exact OwnS.nil _ _, hb1⟩
  | false =>
    rw [hd] at hdown
    have HL := Lib.hid (show listP (absD S) = S.now.map (·.1) by unfold listP; rw [abs_down, if_neg (by rw [hd]; simp), hnames])
    clear hd hl hnames
    go_enter Tryz.func41, Tryz.ntmps41
    go_wp2_with fail
    refine hdown.mono ?_
    rintro e w1 ⟨rfl, hb1⟩
    clear hdown
    have h1 := h.below hb1
    have c0 : w1.cell? ⟨dd, 0, none⟩ = some (.map (some S.bn)) := h1.cell 0
    have hk := keysF_any (some S.bn) w1
    have hso := sortedF_any w1 h1.now (by omega)
    go_wp2_with fail
    refine hk.mono ?_
    rintro e w2 ⟨rfl, rfl⟩
    clear hk
    go_wp2_with fail
    refine hso.mono ?_
    rintro e w3 ⟨v, rfl, hown, hb3⟩
    clear hso
    have HO := Lib.hid hown
    obtain ⟨pv, cv, rfl, k1, k2, _⟩ := hown.shape (n := S.now.length) (by simp)
    clear hown
    go_wp2_with fail
    go_ret
    exact ⟨_, rfl, by rw [HL.out]; exact HO.out.mono hb1.size, hb1.trans (hb3.mono hb1.size)⟩
end Go.Proofs.YtheoklhmlnfgjaaGreatDoor
/-
  The plain disk's laws: what every step keeps. No program is in sight here.
-/
namespace Go.Proofs.YtheoklhmlnfgjaaGreatDoor

theorem doP_create (A : Pl) (k : BS) : doP A (.create k) = if begP A [k] ≠ 0 then (tickP A, begP A [k]) else if lookN A.now k ≠ none then (tickP A, 91) else ({ chgP A (.put k A.files.length) with files := A.files ++ [([], 0)] }, 0) := rfl
theorem doP_append (A : Pl) (k d : BS) : doP A (.append k d) = if onP A [] k ≠ 0 then (tickP A, onP A [] k) else if 0 < d.length ∧ A.room < usedP A + d.length then (tickP A, 92) else ({ tickP A with files := A.files.modify (atP A k) fun x => (x.1 ++ d, x.2) }, 0) := rfl
theorem doP_sync (A : Pl) (k : BS) : doP A (.sync k) = if onP A [] k ≠ 0 then (tickP A, onP A [] k) else ({ tickP A with files := A.files.modify (atP A k) fun x => (x.1, x.1.length) }, 0) := rfl
theorem doP_names (A : Pl) : doP A .names = if begP A [] ≠ 0 then (tickP A, begP A []) else ({ tickP A with safe := A.now, pend := [] }, 0) := rfl
theorem doP_rename (A : Pl) (a b : BS) : doP A (.rename a b) = if onP A [b] a ≠ 0 then (tickP A, onP A [b] a) else if a = b then (tickP A, 0) else (chgP A (.ren a b (atP A a)), 0) := rfl
theorem doP_remove (A : Pl) (k : BS) : doP A (.remove k) = if onP A [] k ≠ 0 then (tickP A, onP A [] k) else (chgP A (.del k), 0) := rfl

theorem insN_perm (k : BS) (f : Nat) : ∀ M : NM, Rises M → (insN k f M).Perm ((k, f) :: delN k M)
  | [], _ => List.Perm.refl _
  | (m, g) :: M, h => by
    have h' := List.pairwise_cons.1 h
    unfold insN
    by_cases e : m = k
    · subst e
      rw [if_pos rfl]
      have hd : delN m ((m, g) :: M) = M := by
        have h0 := delN_out m M fun x hx e => by
          have := h'.1 x hx
          rw [e] at this
          exact absurd this (List.lt_irrefl _)
        unfold delN at h0 ⊢
        rw [List.filter_cons]
        simp only [ne_eq, not_true, decide_false, Bool.false_eq_true, if_false]
        exact h0
      rw [hd]
    · rw [if_neg e]
      have hd : delN k ((m, g) :: M) = (m, g) :: delN k M := by
        unfold delN
        rw [List.filter_cons]
        simp [e]
      by_cases hlt : k < m
      · rw [if_pos hlt]
        have h0 : delN k ((m, g) :: M) = (m, g) :: M := delN_out k _ fun x hx e2 => by
          rcases List.mem_cons.1 hx with rfl | hx
          · exact e e2
          · have := List.lt_trans hlt (h'.1 x hx)
            rw [e2] at this
            exact absurd this (List.lt_irrefl _)
        rw [h0]
      · rw [if_neg hlt, hd]
        exact ((insN_perm k f M h'.2).cons (m, g)).trans (List.Perm.swap _ _ _)
theorem insN_length (k : BS) (f : Nat) : ∀ M : NM, (insN k f M).length ≤ M.length + 1
  | [] => Nat.le_refl _
  | (m, g) :: M => by
    have := insN_length k f M
    unfold insN
    split
    · simp
    · split
      · simp
      · simp only [List.length_cons]; omega
theorem delN_length (k : BS) (M : NM) : (delN k M).length ≤ M.length := List.length_filter_le _ _
theorem delN_mem {k : BS} {M : NM} {x : BS × Nat} (h : x ∈ delN k M) : x ∈ M ∧ x.1 ≠ k := by
  have := List.mem_filter.1 h
  exact ⟨this.1, by simpa using this.2⟩
theorem lookN_of_mem {M : NM} (hr : Rises M) {k : BS} {f : Nat} (h : (k, f) ∈ M) : lookN M k = some f := by
  induction M with
  | nil => cases h
  | cons x M ih =>
    have h' := List.pairwise_cons.1 hr
    obtain ⟨m, g⟩ := x
    rw [lookN_cons]
    rcases List.mem_cons.1 h with e | e
    · injection e with e1 e2
      rw [if_pos e1.symm, e2]
    · rw [if_neg (fun e2 => by
        have := h'.1 _ e
        simp only [e2] at this
        exact absurd this (List.lt_irrefl _)), ih h'.2 e]

def NoC (P : BS → Prop) : Chg → Prop
  | .put k _ => P k
  | .ren _ k _ => P k
  | .del _ => True
structure Inv (A : Pl) : Prop where
  rnow : Rises A.now
  rsafe : Rises A.safe
  fold : A.pend.foldl (fun M c => applyC c M) A.safe = A.now
  gnow : ∀ x ∈ A.now, badN x.1 = false
  gsafe : ∀ x ∈ A.safe, badN x.1 = false
  gpend : ∀ c ∈ A.pend, NoC (fun k => badN k = false) c
  fnow : ∀ x ∈ A.now, x.2 < A.files.length
  inj : (A.now.map (·.2)).Nodup
  firm : ∀ x ∈ A.files, x.2 ≤ x.1.length

theorem applyC_rises (c : Chg) (M : NM) (h : Rises M) : Rises (applyC c M) := by
  cases c with
  | put k f => exact insN_rises k f M h
  | ren a k f => exact insN_rises k f _ (delN_rises a M h)
  | del k => exact delN_rises k M h
theorem applyC_good {Q : BS → Prop} (c : Chg) (M : NM) (h : ∀ x ∈ M, Q x.1) (hc : NoC Q c) : ∀ x ∈ applyC c M, Q x.1 := by
  intro x hx
  cases c with
  | put k f =>
    rcases insN_mem k f x M hx with e | e
    · rw [e]; exact hc
    · exact h x e
  | ren a k f =>
    rcases insN_mem k f x _ hx with e | e
    · rw [e]; exact hc
    · exact h x (delN_mem e).1
  | del k => exact h x (delN_mem hx).1
theorem applyC_length (c : Chg) (M : NM) : (applyC c M).length ≤ M.length + 1 := by
  cases c with
  | put k f => exact insN_length k f M
  | ren a k f => exact Nat.le_trans (insN_length k f _) (by have := delN_length a M; omega)
  | del k => exact Nat.le_trans (delN_length k M) (by omega)
theorem fold_rises : ∀ (C : List Chg) (M : NM), Rises M → Rises (C.foldl (fun M c => applyC c M) M)
  | [], _, h => h
  | c :: C, M, h => fold_rises C _ (applyC_rises c M h)
theorem fold_good {Q : BS → Prop} : ∀ (C : List Chg) (M : NM), (∀ x ∈ M, Q x.1) → (∀ c ∈ C, NoC Q c) → ∀ x ∈ C.foldl (fun M c => applyC c M) M, Q x.1
  | [], _, h, _ => h
  | c :: C, M, h, hc => fold_good C _ (applyC_good c M h (hc c (List.mem_cons_self ..))) fun d hd => hc d (List.mem_cons_of_mem _ hd)
theorem fold_length : ∀ (C : List Chg) (M : NM), (C.foldl (fun M c => applyC c M) M).length ≤ M.length + C.length
  | [], _ => Nat.le_refl _
  | c :: C, M => by
    have h1 := fold_length C (applyC c M)
    have h2 := applyC_length c M
    simp only [List.foldl_cons, List.length_cons]
    omega
theorem leftN_rises {A : Pl} (h : Inv A) (n : Int) : Rises (leftNP A n) := fold_rises _ _ h.rsafe
theorem leftN_good {A : Pl} (h : Inv A) (n : Int) : ∀ x ∈ leftNP A n, badN x.1 = false :=
  fold_good (Q := fun k => badN k = false) _ _ h.gsafe fun c hc => h.gpend c (List.mem_of_mem_take hc)

theorem nodup_ins {k : BS} {f : Nat} {M : NM} (h : Rises M) (hn : ((delN k M).map (·.2)).Nodup) (hf : f ∉ (delN k M).map (·.2)) : ((insN k f M).map (·.2)).Nodup :=
  (((insN_perm k f M h).map (·.2)).nodup_iff).2 (by rw [List.map_cons, List.nodup_cons]; exact ⟨hf, hn⟩)
theorem nodup_del {k : BS} {M : NM} (h : (M.map (·.2)).Nodup) : ((delN k M).map (·.2)).Nodup := List.Nodup.sublist (List.Sublist.map _ List.filter_sublist) h
theorem inj_eq {M : NM} (h : (M.map (·.2)).Nodup) {a b : BS} {f : Nat} (ha : (a, f) ∈ M) (hb : (b, f) ∈ M) : a = b := by
  induction M with
  | nil => cases ha
  | cons x M ih =>
    rw [List.map_cons, List.nodup_cons] at h
    rcases List.mem_cons.1 ha with e1 | e1
    · rcases List.mem_cons.1 hb with e2 | e2
      · rw [← e1] at e2; injection e2 with e2 _; exact e2.symm
      · exact absurd (List.mem_map.2 ⟨_, e2, by rw [← e1]⟩) h.1
    · rcases List.mem_cons.1 hb with e2 | e2
      · exact absurd (List.mem_map.2 ⟨_, e1, by rw [← e2]⟩) h.1
      · exact ih h.2 e1 e2

theorem inv_tick {A : Pl} (h : Inv A) : Inv (tickP A) := by
  unfold tickP
  split
  · exact h
  · exact ⟨h.rnow, h.rsafe, h.fold, h.gnow, h.gsafe, h.gpend, h.fnow, h.inj, h.firm⟩
theorem inv_files {A : Pl} (h : Inv A) {F : List (BS × Nat)} (hl : F.length = A.files.length) (hf : ∀ x ∈ F, x.2 ≤ x.1.length) : Inv { A with files := F } :=
  ⟨h.rnow, h.rsafe, h.fold, h.gnow, h.gsafe, h.gpend, fun x hx => by show x.2 < F.length; rw [hl]; exact h.fnow x hx, h.inj, hf⟩
theorem modify_all {α : Type} {P : α → Prop} {u : α → α} (hu : ∀ x, P x → P (u x)) : ∀ (l : List α) (i : Nat), (∀ x ∈ l, P x) → ∀ x ∈ l.modify i u, P x := by
  intro l i h x hx
  obtain ⟨j, hj, e⟩ := List.getElem_of_mem hx
  rw [List.length_modify] at hj
  rw [List.getElem_modify] at e
  split at e
  · rw [← e]; exact hu _ (h _ (List.getElem_mem _))
  · rw [← e]; exact h _ (List.getElem_mem _)
theorem inv_chg {A : Pl} (h : Inv A) (c : Chg) (hg : NoC (fun k => badN k = false) c) (hf : ∀ x ∈ applyC c A.now, x.2 < A.files.length) (hi : ((applyC c A.now).map (·.2)).Nodup) : Inv (chgP A c) := by
  have ht := tick_rest A
  unfold chgP
  refine ⟨applyC_rises c _ h.rnow, by show Rises (tickP A).safe; rw [ht.2.2.2.1]; exact h.rsafe, ?_, applyC_good (Q := fun k => badN k = false) c _ h.gnow hg, by show ∀ x ∈ (tickP A).safe, _; rw [ht.2.2.2.1]; exact h.gsafe, ?_, by show ∀ x ∈ applyC c A.now, x.2 < (tickP A).files.length; rw [ht.2.2.1]; exact hf, hi, by show ∀ x ∈ (tickP A).files, _; rw [ht.2.2.1]; exact h.firm⟩
  · show (A.pend ++ [c]).foldl _ (tickP A).safe = _
    rw [ht.2.2.2.1, List.foldl_append, h.fold]
    rfl
  · intro d hd
    rcases List.mem_append.1 hd with e | e
    · exact h.gpend d e
    · rw [List.mem_singleton.1 e]; exact hg
theorem begP_good {A : Pl} {L : List BS} (h : begP A L = 0) : ∀ k ∈ L, badN k = false := by
  unfold begP at h
  split at h
  · cases h
  · split at h
    · cases h
    · split at h
      · cases h
      · rename_i h3
        intro k hk
        have : ¬ badN k = true := fun e => h3 (List.any_eq_true.2 ⟨k, hk, e⟩)
        simpa using this
theorem onP_zero {A : Pl} {L : List BS} {k : BS} (h : onP A L k = 0) : begP A (L ++ [k]) = 0 ∧ lookN A.now k = some (atP A k) ∧ (k, atP A k) ∈ A.now := by
  unfold onP at h
  split at h
  · rename_i h1; exact absurd h h1
  · rename_i h1
    split at h
    · cases h
    · rename_i h2
      have h1 : begP A (L ++ [k]) = 0 := by simpa using h1
      obtain ⟨f, hf⟩ := Option.ne_none_iff_exists'.1 h2
      have e : atP A k = f := by unfold atP; rw [hf]; rfl
      rw [e]
      exact ⟨h1, hf, lookN_mem _ _ _ hf⟩
/-- every step keeps the laws -/
theorem inv_do {A : Pl} (h : Inv A) (o : Opp) : Inv (doP A o).1 := by
  have ht := tick_rest A
  cases o with
  | create k =>
    rw [doP_create]
    split
    · exact inv_tick h
    · rename_i h1
      have h1 : begP A [k] = 0 := by simpa using h1
      split
      · exact inv_tick h
      · rename_i h2
        have h2 : lookN A.now k = none := by simpa using h2
        have hd : delN k A.now = A.now := delN_out k _ fun x hx e => by
          have := lookN_of_mem h.rnow (k := x.1) (f := x.2) hx
          rw [e, h2] at this; cases this
        have hg := begP_good h1 k (by simp)
        have hlt : ∀ x ∈ insN k A.files.length A.now, x.2 < A.files.length + 1 := fun x hx => by
          rcases insN_mem _ _ x _ hx with e | e
          · rw [e]; exact Nat.lt_succ_self _
          · exact Nat.lt_succ_of_lt (h.fnow x e)
        have hi : ((insN k A.files.length A.now).map (·.2)).Nodup := nodup_ins h.rnow (by rw [hd]; exact h.inj) (by
          rw [hd]
          intro e
          obtain ⟨x, hx, e⟩ := List.mem_map.1 e
          have := h.fnow x hx
          omega)
        have hc := inv_chg (A := { A with files := A.files ++ [([], 0)] }) ⟨h.rnow, h.rsafe, h.fold, h.gnow, h.gsafe, h.gpend, fun x hx => by show x.2 < (A.files ++ [([], 0)]).length; rw [List.length_append]; exact Nat.lt_succ_of_lt (h.fnow x hx), h.inj, fun x hx => by
          rcases List.mem_append.1 hx with e | e
          · exact h.firm x e
          · rw [List.mem_singleton.1 e]; exact Nat.le_refl _⟩ (.put k A.files.length) hg (by show ∀ x ∈ insN k A.files.length A.now, x.2 < (A.files ++ [([], 0)]).length; rw [List.length_append]; exact hlt) hi
        have e : ({ chgP A (.put k A.files.length) with files := A.files ++ [([], 0)] } : Pl) = chgP { A with files := A.files ++ [([], 0)] } (.put k A.files.length) := by
          unfold chgP tickP
          show _ = Pl.mk _ _ _ _ _ _ _ _
          have : downP { A with files := A.files ++ [([], 0)] } = downP A := rfl
          rw [this]
          split <;> rfl
        show Inv { chgP A (.put k A.files.length) with files := A.files ++ [([], 0)] }
        rw [e]
        exact hc
  | append k d =>
    rw [doP_append]
    split
    · exact inv_tick h
    · split
      · exact inv_tick h
      · refine inv_files (inv_tick h) (by rw [List.length_modify, ht.2.2.1]) ?_
        exact modify_all (P := fun x : BS × Nat => x.2 ≤ x.1.length) (fun x hx => by simp only [List.length_append]; omega) _ _ h.firm
  | sync k =>
    rw [doP_sync]
    split
    · exact inv_tick h
    · refine inv_files (inv_tick h) (by rw [List.length_modify, ht.2.2.1]) ?_
      exact modify_all (P := fun x : BS × Nat => x.2 ≤ x.1.length) (fun x _ => Nat.le_refl _) _ _ h.firm
  | names =>
    rw [doP_names]
    split
    · exact inv_tick h
    · have := inv_tick h
      refine ⟨this.rnow, h.rnow, ?_, this.gnow, h.gnow, (fun c hc => by cases hc), this.fnow, this.inj, this.firm⟩
      show A.now = (tickP A).now
      rw [ht.1]
  | rename a b =>
    rw [doP_rename]
    split
    · exact inv_tick h
    · rename_i h1
      have h1 : onP A [b] a = 0 := by simpa using h1
      obtain ⟨h2, h3, h4⟩ := onP_zero h1
      split
      · exact inv_tick h
      · have hr := delN_rises a _ h.rnow
        refine inv_chg h (.ren a b (atP A a)) (begP_good h2 b (by simp)) (fun x hx => ?_) (nodup_ins hr (nodup_del (nodup_del h.inj)) fun e => ?_)
        · rcases insN_mem _ _ x _ hx with e | e
          · rw [e]; show atP A a < _; exact h.fnow _ h4
          · exact h.fnow x (delN_mem e).1
        · obtain ⟨x, hx, e⟩ := List.mem_map.1 e
          have m1 := (delN_mem hx).1
          have m2 := delN_mem m1
          obtain ⟨y, z⟩ := x
          simp only at e
          subst e
          exact m2.2 (inj_eq h.inj m2.1 h4)
  | remove k =>
    rw [doP_remove]
    split
    · exact inv_tick h
    · exact inv_chg h (.del k) trivial (fun x hx => h.fnow x (delN_mem hx).1) (nodup_del h.inj)

/-- an error changes nothing but the count -/
theorem do_err {A : Pl} (o : Opp) (h : (doP A o).2 ≠ 0) : (doP A o).1 = tickP A := by
  cases o with
  | create k => rw [doP_create] at h ⊢; (repeat' split at h) <;> simp_all
  | append k d => rw [doP_append] at h ⊢; (repeat' split at h) <;> simp_all
  | sync k => rw [doP_sync] at h ⊢; (repeat' split at h) <;> simp_all
  | names => rw [doP_names] at h ⊢; (repeat' split at h) <;> simp_all
  | rename a b => rw [doP_rename] at h ⊢; (repeat' split at h) <;> simp_all
  | remove k => rw [doP_remove] at h ⊢; (repeat' split at h) <;> simp_all
end Go.Proofs.YtheoklhmlnfgjaaGreatDoor
/-
  The plain disk's sizes, and the bytes that are used. No program is in sight here.
-/
namespace Go.Proofs.YtheoklhmlnfgjaaGreatDoor

theorem sum_perm {α : Type} (f : α → Nat) {L M : List α} (h : L.Perm M) : (L.map f).sum = (M.map f).sum := by
  induction h with
  | nil => rfl
  | cons x _ ih => simp only [List.map_cons, List.sum_cons, ih]
  | swap x y l => simp only [List.map_cons, List.sum_cons]; omega
  | trans _ _ h1 h2 => exact h1.trans h2
theorem sum_sub {α : Type} (f : α → Nat) {L M : List α} (h : L.Sublist M) : (L.map f).sum ≤ (M.map f).sum := by
  induction h with
  | slnil => exact Nat.le_refl _
  | cons x _ ih => simp only [List.map_cons, List.sum_cons]; omega
  | cons_cons x _ ih => simp only [List.map_cons, List.sum_cons]; omega
theorem sum_same (f g : Nat → Nat) (i : Nat) (ho : ∀ j, j ≠ i → g j = f j) : ∀ M : NM, i ∉ M.map (·.2) → (M.map fun x => g x.2).sum = (M.map fun x => f x.2).sum
  | [], _ => rfl
  | x :: M, h => by
    rw [List.map_cons, List.mem_cons, not_or] at h
    simp only [List.map_cons, List.sum_cons]
    rw [sum_same f g i ho M h.2, ho x.2 (fun e => h.1 e.symm)]
theorem sum_one (f g : Nat → Nat) (i d : Nat) (hi : g i ≤ f i + d) (ho : ∀ j, j ≠ i → g j = f j) : ∀ M : NM, (M.map (·.2)).Nodup → (M.map fun x => g x.2).sum ≤ (M.map fun x => f x.2).sum + d
  | [], _ => Nat.zero_le _
  | x :: M, h => by
    rw [List.map_cons, List.nodup_cons] at h
    simp only [List.map_cons, List.sum_cons]
    by_cases e : x.2 = i
    · rw [sum_same f g i ho M (by rw [← e]; exact h.1), e]; omega
    · have := sum_one f g i d hi ho M h.2
      rw [ho x.2 e]; omega
def lenF (F : List (BS × Nat)) (i : Nat) : Nat := ((F[i]?.map (·.1)).getD []).length
theorem usedP_eq (A : Pl) : usedP A = (A.now.map fun x => lenF A.files x.2).sum := rfl
theorem lenF_modify {F : List (BS × Nat)} {i : Nat} {u : BS × Nat → BS × Nat} {d : Nat} (hu : ∀ x, (u x).1.length = x.1.length + d) : lenF (F.modify i u) i ≤ lenF F i + d ∧ ∀ j, j ≠ i → lenF (F.modify i u) j = lenF F j := by
  unfold lenF
  constructor
  · rw [List.getElem?_modify]
    cases F[i]? with
    | none => simp
    | some x => simp [hu x]
  · intro j hj
    have hj' : ¬ i = j := fun e => hj e.symm
    rw [List.getElem?_modify]
    simp only [hj', if_false]
    cases F[j]? <;> rfl
theorem lenF_add (F : List (BS × Nat)) (i : Nat) : lenF (F ++ [([], 0)]) i = lenF F i := by
  unfold lenF
  by_cases h : i < F.length
  · rw [List.getElem?_append_left h]
  · rw [List.getElem?_append_right (by omega), List.getElem?_eq_none (by omega : F.length ≤ i)]
    cases i - F.length <;> rfl
theorem lenF_out (F : List (BS × Nat)) (i : Nat) (h : F.length ≤ i) : lenF F i = 0 := by
  unfold lenF; rw [List.getElem?_eq_none h]; rfl
theorem insN_same {M : NM} (h : Rises M) {k : BS} {f : Nat} (hk : (k, f) ∈ M) : insN k f M = M :=
  nm_ext _ _ (insN_rises k f M h) h fun j => by
    by_cases e : j = k
    · subst e; rw [lookN_ins_same, lookN_of_mem h hk]
    · rw [lookN_ins_other k j f e]
theorem sum_del {M : NM} (f : BS × Nat → Nat) (h : Rises M) {k : BS} {i : Nat} (hk : (k, i) ∈ M) : (M.map f).sum = f (k, i) + ((delN k M).map f).sum := by
  have := sum_perm f (insN_perm k i M h)
  rw [insN_same h hk] at this
  rw [this, List.map_cons, List.sum_cons]
/-- a step's bytes: no more than before, or no more than there is room for -/
theorem used_do {A : Pl} (h : Inv A) (o : Opp) : usedP (doP A o).1 ≤ usedP A ∨ usedP (doP A o).1 ≤ A.room := by
  have ht := tick_rest A
  have hu : usedP (tickP A) = usedP A := by rw [usedP_eq, usedP_eq, ht.1, ht.2.2.1]
  cases o with
  | create k =>
    rw [doP_create]
    split
    · exact .inl (Nat.le_of_eq hu)
    · split
      · exact .inl (Nat.le_of_eq hu)
      · left
        show ((insN k A.files.length A.now).map fun x => lenF (A.files ++ [([], 0)]) x.2).sum ≤ _
        rw [show (fun x : BS × Nat => lenF (A.files ++ [([], 0)]) x.2) = fun x => lenF A.files x.2 from funext fun x => lenF_add _ _]
        rw [sum_perm _ (insN_perm k A.files.length A.now h.rnow), List.map_cons, List.sum_cons, lenF_out _ _ (Nat.le_refl _), usedP_eq, Nat.zero_add]
        exact sum_sub _ List.filter_sublist
  | append k d =>
    rw [doP_append]
    split
    · exact .inl (Nat.le_of_eq hu)
    · split
      · exact .inl (Nat.le_of_eq hu)
      · rename_i h2
        have hm := lenF_modify (F := A.files) (i := atP A k) (u := fun x => (x.1 ++ d, x.2)) (d := d.length) (fun x => List.length_append ..)
        have := sum_one _ _ _ d.length hm.1 hm.2 A.now h.inj
        rw [← usedP_eq] at this
        have e : usedP { tickP A with files := A.files.modify (atP A k) fun x => (x.1 ++ d, x.2) } = (A.now.map fun x => lenF (A.files.modify (atP A k) fun x => (x.1 ++ d, x.2)) x.2).sum := by rw [usedP_eq]; show ((tickP A).now.map _).sum = _; rw [ht.1]
        rw [e]
        by_cases h0 : 0 < d.length
        · right
          have : ¬ A.room < usedP A + d.length := fun e => h2 ⟨h0, e⟩
          omega
        · left; omega
  | sync k =>
    rw [doP_sync]
    split
    · exact .inl (Nat.le_of_eq hu)
    · left
      have hm := lenF_modify (F := A.files) (i := atP A k) (u := fun x => (x.1, x.1.length)) (d := 0) (fun x => rfl)
      have := sum_one _ _ _ 0 hm.1 hm.2 A.now h.inj
      rw [← usedP_eq] at this
      have e : usedP { tickP A with files := A.files.modify (atP A k) fun x => (x.1, x.1.length) } = (A.now.map fun x => lenF (A.files.modify (atP A k) fun x => (x.1, x.1.length)) x.2).sum := by rw [usedP_eq]; show ((tickP A).now.map _).sum = _; rw [ht.1]
      rw [e]
      exact this
  | names =>
    rw [doP_names]
    split
    · exact .inl (Nat.le_of_eq hu)
    · exact .inl (Nat.le_of_eq hu)
  | rename a b =>
    rw [doP_rename]
    split
    · exact .inl (Nat.le_of_eq hu)
    · rename_i h1
      have h1 : onP A [b] a = 0 := by simpa using h1
      obtain ⟨h2, h3, h4⟩ := onP_zero h1
      split
      · exact .inl (Nat.le_of_eq hu)
      · left
        have e : usedP (chgP A (.ren a b (atP A a))) = ((insN b (atP A a) (delN a A.now)).map fun x => lenF A.files x.2).sum := by
          rw [usedP_eq]; rw [show ∀ c, (chgP A c).files = A.files from fun c => ht.2.2.1]; rfl
        rw [e, sum_perm _ (insN_perm b _ _ (delN_rises a _ h.rnow)), List.map_cons, List.sum_cons, usedP_eq, sum_del _ h.rnow h4]
        have := sum_sub (fun x : BS × Nat => lenF A.files x.2) (List.filter_sublist (p := fun x : BS × Nat => decide (x.1 ≠ b)) (l := delN a A.now))
        exact Nat.add_le_add_left this _
  | remove k =>
    rw [doP_remove]
    split
    · exact .inl (Nat.le_of_eq hu)
    · left
      have e : usedP (chgP A (.del k)) = ((delN k A.now).map fun x => lenF A.files x.2).sum := by
        rw [usedP_eq]; rw [show ∀ c, (chgP A c).files = A.files from fun c => ht.2.2.1]; rfl
      rw [e, usedP_eq]
      exact sum_sub _ List.filter_sublist

theorem do_rest (A : Pl) (o : Opp) : (doP A o).1.room = A.room ∧ (doP A o).1.fails = A.fails ∧ (doP A o).1.power = A.power := by
  have ht := tick_rest A
  have e : ∀ c, (chgP A c).room = A.room ∧ (chgP A c).fails = A.fails ∧ (chgP A c).power = A.power := fun c => ⟨ht.2.2.2.2.1, ht.2.2.2.2.2.1, ht.2.2.2.2.2.2⟩
  have e0 : (tickP A).room = A.room ∧ (tickP A).fails = A.fails ∧ (tickP A).power = A.power := ⟨ht.2.2.2.2.1, ht.2.2.2.2.2.1, ht.2.2.2.2.2.2⟩
  cases o with
  | create k => rw [doP_create]; (repeat' split) <;> first | exact e0 | exact e _
  | append k d => rw [doP_append]; (repeat' split) <;> first | exact e0 | exact e _
  | sync k => rw [doP_sync]; (repeat' split) <;> first | exact e0 | exact e _
  | names => rw [doP_names]; (repeat' split) <;> first | exact e0 | exact e _
  | rename a b => rw [doP_rename]; (repeat' split) <;> first | exact e0 | exact e _
  | remove k => rw [doP_remove]; (repeat' split) <;> first | exact e0 | exact e _
structure FitN (A : Pl) (n : Nat) : Prop where
  steps : A.steps ≤ n
  pend : A.pend.length ≤ n
  now : A.now.length ≤ 3518437208780 + n
  safe : A.safe.length ≤ 3518437208780 + n
  files : A.files.length ≤ 3518437208780 + n
  fails : A.fails.length ≤ 17592186043904
  used : usedP A ≤ 140737488351232 ∨ usedP A ≤ A.room
  room : A.room ≤ 1073741824
theorem FitN.fit {A : Pl} {n : Nat} (h : FitN A n) (hn : n ≤ 1000000) : FitP A :=
  ⟨by have := h.steps; omega, by have := h.pend; omega, by have := h.now; omega, by have := h.safe; omega, by have := h.files; omega, by have := h.fails; omega, by have := h.room; rcases h.used with h | h <;> omega, h.room⟩
theorem tick_steps (A : Pl) : (tickP A).steps ≤ A.steps + 1 := by
  unfold tickP
  split
  · exact Nat.le_succ _
  · exact Nat.le_refl _
theorem fit_do {n : Nat} {A : Pl} (h : Inv A) (hf : FitN A n) (o : Opp) : FitN (doP A o).1 (n + 1) := by
  have ht := tick_rest A
  have hr := do_rest A o
  have hs := tick_steps A
  obtain ⟨f1, f2, f3, f4, f5, f6, f7, f8⟩ := hf
  have sh : (doP A o).1.steps ≤ A.steps + 1 ∧ (doP A o).1.pend.length ≤ A.pend.length + 1 ∧ (doP A o).1.now.length ≤ A.now.length + 1 ∧ ((doP A o).1.safe.length ≤ A.safe.length ∨ (doP A o).1.safe.length ≤ A.now.length) ∧ (doP A o).1.files.length ≤ A.files.length + 1 := by
    have e0 : (tickP A).steps ≤ A.steps + 1 ∧ (tickP A).pend.length ≤ A.pend.length + 1 ∧ (tickP A).now.length ≤ A.now.length + 1 ∧ ((tickP A).safe.length ≤ A.safe.length ∨ (tickP A).safe.length ≤ A.now.length) ∧ (tickP A).files.length ≤ A.files.length + 1 := by
      rw [ht.1, ht.2.1, ht.2.2.1, ht.2.2.2.1]
      exact ⟨hs, by omega, by omega, .inl (Nat.le_refl _), by omega⟩
    have e1 : ∀ c, (chgP A c).steps ≤ A.steps + 1 ∧ (chgP A c).pend.length ≤ A.pend.length + 1 ∧ (chgP A c).now.length ≤ A.now.length + 1 ∧ ((chgP A c).safe.length ≤ A.safe.length ∨ (chgP A c).safe.length ≤ A.now.length) ∧ (chgP A c).files.length ≤ A.files.length + 1 := by
      intro c
      refine ⟨hs, ?_, applyC_length c _, .inl (by show (tickP A).safe.length ≤ _; rw [ht.2.2.2.1]; exact Nat.le_refl _), by show (tickP A).files.length ≤ _; rw [ht.2.2.1]; omega⟩
      show (A.pend ++ [c]).length ≤ _
      simp
    cases o with
    | create k =>
      rw [doP_create]
      repeat' split
      · exact e0
      · exact e0
      · obtain ⟨a, b, c, d, e⟩ := e1 (.put k A.files.length)
        exact ⟨a, b, c, d, by simp⟩
    | append k d =>
      rw [doP_append]
      repeat' split
      · exact e0
      · exact e0
      · obtain ⟨a, b, c, d, e⟩ := e0
        exact ⟨a, b, c, d, by simp⟩
    | sync k =>
      rw [doP_sync]
      repeat' split
      · exact e0
      · obtain ⟨a, b, c, d, e⟩ := e0
        exact ⟨a, b, c, d, by simp⟩
    | names =>
      rw [doP_names]
      repeat' split
      · exact e0
      · obtain ⟨a, b, c, d, e⟩ := e0
        exact ⟨a, by simp, c, .inr (Nat.le_refl _), e⟩
    | rename a b =>
      rw [doP_rename]
      repeat' split
      · exact e0
      · exact e0
      · exact e1 _
    | remove k =>
      rw [doP_remove]
      repeat' split
      · exact e0
      · exact e1 _
  obtain ⟨s1, s2, s3, s4, s5⟩ := sh
  refine ⟨by omega, by omega, by omega, by omega, by omega, by rw [hr.2.1]; exact f6, ?_, by rw [hr.1]; exact f8⟩
  rw [hr.1]
  rcases used_do h o with h1 | h1
  · rcases f7 with f7 | f7
    · exact .inl (Nat.le_trans h1 f7)
    · exact .inr (Nat.le_trans h1 f7)
  · exact .inr h1
theorem lenF_used {A : Pl} {x : BS × Nat} (h : x ∈ A.now) : lenF A.files x.2 ≤ usedP A := by
  rw [usedP_eq]
  obtain ⟨s, t, e⟩ := List.append_of_mem h
  rw [e, List.map_append, List.sum_append, List.map_cons, List.sum_cons]
  omega
/-- no file is longer than memory -/
def DatN (A : Pl) : Prop := ∀ f ∈ A.files, f.1.length ≤ 140737488351232
theorem dat_do {A : Pl} (hd : DatN A) (hr : A.room ≤ 1073741824) (o : Opp) : DatN (doP A o).1 := by
  have ht := tick_rest A
  have e0 : DatN (tickP A) := by unfold DatN; rw [ht.2.2.1]; exact hd
  have e1 : ∀ c, DatN (chgP A c) := fun c => by show ∀ f ∈ (tickP A).files, _; rw [ht.2.2.1]; exact hd
  cases o with
  | create k =>
    rw [doP_create]
    (repeat' split) <;> first | exact e0 | skip
    intro f hf
    rcases List.mem_append.1 hf with e | e
    · exact hd f e
    · rw [List.mem_singleton.1 e]; exact Nat.zero_le _
  | append k d =>
    rw [doP_append]
    split
    · exact e0
    · rename_i h1
      split
      · exact e0
      · rename_i h2
        obtain ⟨_, _, g3⟩ := onP_zero (by simpa using h1)
        have hu : lenF A.files (atP A k) ≤ usedP A := lenF_used g3
        intro f hf
        have hf : f ∈ A.files.modify (atP A k) fun x => (x.1 ++ d, x.2) := hf
        obtain ⟨i, hi, e⟩ := List.getElem_of_mem hf
        rw [List.length_modify] at hi
        rw [List.getElem_modify] at e
        split at e
        · rename_i e2
          subst e2
          have : lenF A.files (atP A k) = A.files[atP A k].1.length := by unfold lenF; rw [List.getElem?_eq_getElem hi]; rfl
          rw [← e]
          simp only [List.length_append]
          rcases Nat.eq_zero_or_pos d.length with h0 | h0
          · have := hd _ (List.getElem_mem hi); omega
          · have : ¬ A.room < usedP A + d.length := fun e => h2 ⟨h0, e⟩
            omega
        · rw [← e]; exact hd _ (List.getElem_mem hi)
  | sync k =>
    rw [doP_sync]
    split
    · exact e0
    · exact modify_all (P := fun x : BS × Nat => x.1.length ≤ 140737488351232) (u := fun x : BS × Nat => (x.1, x.1.length)) (fun x hx => hx) _ _ hd
  | names =>
    rw [doP_names]
    split
    · exact e0
    · exact e0
  | rename a b =>
    rw [doP_rename]
    (repeat' split) <;> first | exact e0 | exact e1 _
  | remove k =>
    rw [doP_remove]
    (repeat' split) <;> first | exact e0 | exact e1 _
end Go.Proofs.YtheoklhmlnfgjaaGreatDoor
/-
  The plain disk's beginning, and the laws without the document's answer. No program is in sight here.
-/
namespace Go.Proofs.YtheoklhmlnfgjaaGreatDoor

def numF : Nat → List (BS × BS) → NM
  | _, [] => []
  | i, f :: F => (f.1, i) :: numF (i + 1) F
theorem numF_get : ∀ (F : List (BS × BS)) (j i : Nat), (numF j F)[i]? = (F[i]?).map fun f => (f.1, j + i)
  | [], _, _ => by simp [numF]
  | f :: F, j, 0 => by simp [numF]
  | f :: F, j, i + 1 => by
    unfold numF
    rw [List.getElem?_cons_succ, List.getElem?_cons_succ, numF_get F (j + 1) i]
    have e : j + 1 + i = j + (i + 1) := by omega
    rw [e]
theorem numF_length : ∀ (F : List (BS × BS)) (j : Nat), (numF j F).length = F.length
  | [], _ => rfl
  | f :: F, j => by unfold numF; rw [List.length_cons, List.length_cons, numF_length F]
theorem numF_snoc (f : BS × BS) : ∀ (F : List (BS × BS)) (j : Nat), numF j (F ++ [f]) = numF j F ++ [(f.1, j + F.length)]
  | [], j => rfl
  | g :: F, j => by
    rw [List.cons_append]
    unfold numF
    rw [numF_snoc f F (j + 1), List.cons_append, List.length_cons]
    have e : j + 1 + F.length = j + (F.length + 1) := by omega
    rw [e]
theorem numF_names : ∀ (F : List (BS × BS)) (j : Nat), (numF j F).map (·.1) = F.map (·.1)
  | [], _ => rfl
  | f :: F, j => by unfold numF; rw [List.map_cons, List.map_cons, numF_names F]
theorem numF_nums : ∀ (F : List (BS × BS)) (j : Nat), (numF j F).map (·.2) = List.range' j F.length
  | [], _ => rfl
  | f :: F, j => by unfold numF; rw [List.map_cons, List.length_cons, List.range'_succ, numF_nums F]
def okF (F : List (BS × BS)) : Prop := (∀ f ∈ F, badN f.1 = false) ∧ F.Pairwise fun f g => f.1 < g.1
open Classical in
noncomputable def newE (F : List (BS × BS)) (room : Int) : Int := if room < 0 ∨ 1073741824 < room then 131 else if okF F then 0 else 95
def newP (F : List (BS × BS)) (room : Int) (fails : List Int) (power : Int) : Pl where
  now := numF 0 F
  safe := numF 0 F
  pend := []
  files := F.map fun f => (f.2, f.2.length)
  room := room.toNat
  fails := fails
  power := power
  steps := 0
theorem newE_zero {F : List (BS × BS)} {room : Int} (h : newE F room = 0) : okF F ∧ 0 ≤ room ∧ room ≤ 1073741824 := by
  unfold newE at h
  split at h
  · cases h
  · rename_i h1
    split at h
    · rename_i h2; exact ⟨h2, by omega, by omega⟩
    · cases h
theorem numF_rises {F : List (BS × BS)} (h : okF F) (j : Nat) : Rises (numF j F) := by
  have h2 := h.2
  unfold Rises
  have e : (numF j F).Pairwise (fun p q => p.1 < q.1) ↔ ((numF j F).map (·.1)).Pairwise (· < ·) := List.pairwise_map.symm
  rw [e, numF_names]
  exact List.pairwise_map.2 h2
theorem numF_mem {F : List (BS × BS)} {x : BS × Nat} (h : x ∈ numF 0 F) : ∃ f, F[x.2]? = some f ∧ x.1 = f.1 := by
  obtain ⟨i, hi, e⟩ := List.getElem_of_mem h
  have := numF_get F 0 i
  rw [List.getElem?_eq_getElem hi, e] at this
  cases hf : F[i]? with
  | none => rw [hf] at this; cases this
  | some f =>
    rw [hf] at this
    simp only [Option.map_some, Option.some.injEq] at this
    subst this
    exact ⟨f, by simpa using hf, rfl⟩
theorem inv_new {F : List (BS × BS)} (h : okF F) (room : Int) (fails : List Int) (power : Int) : Inv (newP F room fails power) := by
  have hg : ∀ x ∈ numF 0 F, badN x.1 = false := fun x hx => by
    obtain ⟨f, hf, e⟩ := numF_mem hx
    rw [e]; exact h.1 f (List.mem_of_getElem? hf)
  refine ⟨numF_rises h 0, numF_rises h 0, rfl, hg, hg, (fun c hc => by cases hc), fun x hx => ?_, ?_, fun x hx => ?_⟩
  · obtain ⟨f, hf, _⟩ := numF_mem hx
    have := (List.getElem?_eq_some_iff.1 hf).1
    show x.2 < (F.map _).length
    simpa using this
  · show ((numF 0 F).map (·.2)).Nodup
    rw [numF_nums]
    exact List.nodup_range'
  · obtain ⟨f, _, e⟩ := List.mem_map.1 hx
    rw [← e]; exact Nat.le_refl _
theorem used_numF (G : List (BS × Nat)) : ∀ (F : List (BS × BS)) (j : Nat), (∀ i f, F[i]? = some f → lenF G (j + i) = f.2.length) → ((numF j F).map fun x => lenF G x.2).sum = (F.map fun f => f.2.length).sum
  | [], _, _ => rfl
  | f :: F, j, h => by
    unfold numF
    have h0 := h 0 f rfl
    simp only [List.map_cons, List.sum_cons]
    rw [used_numF G F (j + 1) fun i g hg => by
      have := h (i + 1) g (by rw [List.getElem?_cons_succ]; exact hg)
      rw [← this]; congr 1; omega]
    rw [Nat.add_zero] at h0
    rw [h0]
theorem used_new (F : List (BS × BS)) (room : Int) (fails : List Int) (power : Int) : usedP (newP F room fails power) = (F.map fun f => f.2.length).sum := by
  rw [usedP_eq]
  exact used_numF _ F 0 fun i f hf => by
    unfold lenF newP
    rw [List.getElem?_map, Nat.zero_add, hf]; rfl
theorem fit_new {F : List (BS × BS)} {room : Int} {fails : List Int} (power : Int) (hr : room ≤ 1073741824) (hl : F.length ≤ 3518437208780) (hs : (F.map fun f => f.2.length).sum ≤ 140737488351232) (hf : fails.length ≤ 17592186043904) : FitN (newP F room fails power) 0 := by
  refine ⟨Nat.le_refl _, Nat.le_refl _, ?_, ?_, ?_, hf, .inl (by rw [used_new]; exact hs), ?_⟩
  · show (numF 0 F).length ≤ _; rw [numF_length]; exact hl
  · show (numF 0 F).length ≤ _; rw [numF_length]; exact hl
  · show (F.map _).length ≤ _; rw [List.length_map]; exact hl
  · show room.toNat ≤ _; omega
/-- what a disk of files leaves at once: the files -/
theorem left_new (F : List (BS × BS)) (room : Int) (fails : List Int) (power n : Int) (keep : List Int) : leftP (newP F room fails power) n keep = F := by
  unfold leftP
  have e : leftNP (newP F room fails power) n = numF 0 F := by
    unfold leftNP newP
    simp
  rw [e]
  apply List.ext_getElem?
  intro i
  rw [List.getElem?_map, numF_get]
  cases hf : F[i]? with
  | none => rfl
  | some f =>
    simp only [Option.map_some]
    unfold leftDP datP firmP newP
    simp only [List.getElem?_map, Nat.zero_add, hf, Option.map_some, Option.getD_some]
    rw [List.take_of_length_le (by omega)]
theorem leftP_names (A : Pl) (n : Int) (keep : List Int) : (leftP A n keep).map (·.1) = (leftNP A n).map (·.1) := by
  unfold leftP
  rw [List.map_map]
  rfl
theorem left_ok {A : Pl} (h : Inv A) (n : Int) (keep : List Int) : okF (leftP A n keep) := by
  refine ⟨fun f hf => ?_, ?_⟩
  · obtain ⟨x, hx, e⟩ := List.mem_map.1 hf
    rw [← e]
    exact leftN_good h n x hx
  · unfold leftP
    exact List.pairwise_map.2 (leftN_rises h n)

/-- what a Sync and a SyncNames have made safe -/
structure SafeI (k : BS) (i : Nat) (held : BS) (B : Pl) : Prop where
  inv : Inv B
  look : lookN B.now k = some i
  safe : lookN B.safe k = some i
  pend : ∀ c ∈ B.pend, ∃ j f, c = .put j f ∧ j ≠ k
  firm : firmP B i = held.length
  held : held <+: datP B i
theorem dat_congr {A B : Pl} (h : A.files = B.files) (i : Nat) : datP A i = datP B i ∧ firmP A i = firmP B i := by
  unfold datP firmP
  rw [h]
  exact ⟨rfl, rfl⟩
theorem SafeI.tick {k : BS} {i : Nat} {held : BS} {B : Pl} (h : SafeI k i held B) : SafeI k i held (tickP B) := by
  have ht := tick_rest B
  have hd := dat_congr (A := tickP B) (B := B) ht.2.2.1 i
  exact ⟨inv_tick h.inv, by rw [ht.1]; exact h.look, by rw [ht.2.2.2.1]; exact h.safe, by rw [ht.2.1]; exact h.pend, by rw [hd.2]; exact h.firm, by rw [hd.1]; exact h.held⟩
theorem dat_modify (B : Pl) (F : List (BS × Nat)) (d : BS) (j i : Nat) (hF : B.files = F.modify j fun x => (x.1 ++ d, x.2)) (A : Pl) (hA : A.files = F) : (datP A i <+: datP B i) ∧ firmP B i = firmP A i := by
  unfold datP firmP
  rw [hF, hA, List.getElem?_modify]
  cases F[i]? with
  | none => exact ⟨List.prefix_refl _, rfl⟩
  | some x =>
    simp only [Option.map_some, Option.getD_some]
    split
    · exact ⟨List.prefix_append _ _, rfl⟩
    · exact ⟨List.prefix_refl _, rfl⟩
theorem SafeI.append {k : BS} {i : Nat} {held : BS} {B : Pl} (h : SafeI k i held B) (j d : BS) : SafeI k i held (doP B (.append j d)).1 := by
  have hi := inv_do h.inv (.append j d)
  have ht := h.tick
  have hr := tick_rest B
  rw [doP_append] at hi ⊢
  split at hi
  · rename_i h1; rw [if_pos h1]; exact ht
  · rename_i h1
    rw [if_neg h1]
    split at hi
    · rename_i h2; rw [if_pos h2]; exact ht
    · rename_i h2
      rw [if_neg h2]
      have hd := dat_modify { tickP B with files := B.files.modify (atP B j) fun x => (x.1 ++ d, x.2) } B.files d (atP B j) i rfl (tickP B) hr.2.2.1
      exact ⟨hi, ht.look, ht.safe, ht.pend, by rw [hd.2]; exact ht.firm, List.IsPrefix.trans ht.held hd.1⟩
theorem SafeI.create {k : BS} {i : Nat} {held : BS} {B : Pl} (h : SafeI k i held B) (j : BS) : SafeI k i held (doP B (.create j)).1 := by
  have hi := inv_do h.inv (.create j)
  have ht := h.tick
  have hr := tick_rest B
  rw [doP_create] at hi ⊢
  split at hi
  · rename_i h1; rw [if_pos h1]; exact ht
  · rename_i h1
    rw [if_neg h1]
    split at hi
    · rename_i h2; rw [if_pos h2]; exact ht
    · rename_i h2
      rw [if_neg h2]
      have h2 : lookN B.now j = none := by simpa using h2
      have hne : j ≠ k := fun e => by
        have := h.look
        rw [← e, h2] at this; cases this
      have hlt := h.inv.fnow _ (lookN_mem _ _ _ h.look)
      simp only at hlt
      refine ⟨hi, ?_, ht.safe, ?_, ?_, ?_⟩
      · show lookN (insN j B.files.length B.now) k = _
        rw [lookN_ins_other j k _ (fun e => hne e.symm)]; exact h.look
      · intro c hc
        rcases List.mem_append.1 hc with e | e
        · exact h.pend c e
        · exact ⟨j, _, List.mem_singleton.1 e, hne⟩
      · have := h.firm
        unfold firmP at this ⊢
        simp only
        rw [List.getElem?_append_left hlt]; exact this
      · have := h.held
        unfold datP at this ⊢
        simp only
        rw [List.getElem?_append_left hlt]; exact this
theorem fold_puts (k : BS) : ∀ (C : List Chg) (M : NM), (∀ c ∈ C, ∃ j f, c = .put j f ∧ j ≠ k) → lookN (C.foldl (fun M c => applyC c M) M) k = lookN M k
  | [], _, _ => rfl
  | c :: C, M, h => by
    rw [List.foldl_cons, fold_puts k C _ fun d hd => h d (List.mem_cons_of_mem _ hd)]
    obtain ⟨j, f, rfl, hne⟩ := h c (List.mem_cons_self ..)
    exact lookN_ins_other j k f (fun e => hne e.symm) M
theorem SafeI.left {k : BS} {i : Nat} {held : BS} {B : Pl} (h : SafeI k i held B) (n : Int) (keep : List Int) : (∃ x ∈ leftP B n keep, x.1 = k) ∧ ∀ x ∈ leftP B n keep, x.1 = k → held <+: x.2 := by
  have hl : lookN (leftNP B n) k = some i := by
    unfold leftNP
    rw [fold_puts k _ _ fun c hc => h.pend c (List.mem_of_mem_take hc)]
    exact h.safe
  refine ⟨⟨_, List.mem_map.2 ⟨(k, i), lookN_mem _ _ _ hl, rfl⟩, rfl⟩, fun x hx e => ?_⟩
  obtain ⟨y, hy, e2⟩ := List.mem_map.1 hx
  have e1 : y.1 = k := by rw [← e, ← e2]
  have := lookN_of_mem (leftN_rises h.inv n) (k := y.1) (f := y.2) hy
  rw [e1, hl] at this
  injection this with this
  rw [← e2]
  show held <+: leftDP B keep y.2
  rw [← this]
  unfold leftDP
  rw [h.firm]
  obtain ⟨r, hr⟩ := h.held
  rw [← hr, List.take_length_add_append]
  exact List.prefix_append _ _
/-- behind a Sync and a SyncNames -/
theorem safe_start {A : Pl} (h : Inv A) (hp : A.power = -1) (k : BS) (h1 : (doP A (.sync k)).2 = 0) (h2 : (doP (doP A (.sync k)).1 .names).2 = 0) :
    ∃ i, SafeI k i (readP (doP (doP A (.sync k)).1 .names).1 k) (doP (doP A (.sync k)).1 .names).1 ∧ readEP (doP (doP A (.sync k)).1 .names).1 k = 0 := by
  obtain ⟨B, hB⟩ : ∃ B, B = (doP A (.sync k)).1 := ⟨_, rfl⟩
  have hi := inv_do h (.sync k)
  have hi2 := inv_do hi .names
  have hpw : (doP B .names).1.power = -1 := by rw [(do_rest B .names).2.2, hB, (do_rest A (.sync k)).2.2, hp]
  rw [← hB] at h2 hi hi2 ⊢
  have ht := tick_rest A
  rw [doP_sync] at h1 hB
  split at h1
  · rename_i h3; exact absurd h1 h3
  · rename_i h3
    rw [if_neg h3] at hB
    obtain ⟨g1, g2, g3⟩ := onP_zero (by simpa using h3)
    have hgood : badN k = false := begP_good g1 k (by simp)
    have hD : (doP B .names).1 = { tickP B with safe := B.now, pend := [] } := by
      rw [doP_names] at h2 ⊢
      split at h2
      · rename_i h4; exact absurd h2 h4
      · rename_i h4; rw [if_neg h4]
    have hl : lookN B.now k = some (atP A k) := by rw [hB]; show lookN (tickP A).now k = _; rw [ht.1]; exact g2
    have hlt := h.fnow _ g3
    simp only at hlt
    have hBt := tick_rest B
    obtain ⟨D, hD0⟩ : ∃ D, D = (doP B .names).1 := ⟨_, rfl⟩
    rw [← hD0] at hD hpw hi2 ⊢
    have dnow : D.now = B.now := by rw [hD]; exact hBt.1
    have dfiles : D.files = B.files := by rw [hD]; exact hBt.2.2.1
    have dl : lookN D.now k = some (atP A k) := by rw [dnow]; exact hl
    have dd : downP D = false := by unfold downP; rw [hpw]; simp
    have he : readEP D k = 0 := by
      unfold readEP
      rw [dd, hgood, dl]; simp
    have hr : readP D k = datP D (atP A k) := by
      unfold readP
      rw [if_pos he]
      unfold atP
      rw [dl]; rfl
    refine ⟨atP A k, ⟨hi2, dl, by rw [hD]; exact hl, by rw [hD]; exact (fun c hc => by cases hc), ?_, by rw [hr]; exact List.prefix_refl _⟩, he⟩
    rw [hr, (dat_congr dfiles _).1, (dat_congr dfiles _).2]
    unfold firmP datP
    have : B.files = A.files.modify (atP A k) fun x => (x.1, x.1.length) := by rw [hB]
    rw [this, List.getElem?_modify, List.getElem?_eq_getElem hlt]
    simp

/-- a life of Appends and Syncs alone -/
structure BegI (F : List (BS × BS)) (B : Pl) : Prop where
  inv : Inv B
  now : B.now = numF 0 F
  safe : B.safe = numF 0 F
  pend : B.pend = []
  len : B.files.length = F.length
  firm : ∀ (i : Nat) (x : BS × Nat) (f : BS × BS), B.files[i]? = some x → F[i]? = some f → f.2.length ≤ x.2
  room : ∀ x ∈ B.files, x.1.length = x.2 ∨ x.1.length ≤ B.room
  rm : B.room ≤ 1073741824
theorem beg_new {F : List (BS × BS)} (h : okF F) {room : Int} (hr : room ≤ 1073741824) (fails : List Int) (power : Int) : BegI F (newP F room fails power) := by
  refine ⟨inv_new h room fails power, rfl, rfl, rfl, by simp [newP], fun i x f hx hf => ?_, fun x hx => ?_, by show room.toNat ≤ _; omega⟩
  · unfold newP at hx
    simp only [List.getElem?_map, hf, Option.map_some, Option.some.injEq] at hx
    rw [← hx]; exact Nat.le_refl _
  · obtain ⟨f, _, e⟩ := List.mem_map.1 hx
    rw [← e]; exact .inl rfl
theorem BegI.tick {F : List (BS × BS)} {B : Pl} (h : BegI F B) : BegI F (tickP B) := by
  have ht := tick_rest B
  exact ⟨inv_tick h.inv, by rw [ht.1]; exact h.now, by rw [ht.2.2.2.1]; exact h.safe, by rw [ht.2.1]; exact h.pend, by rw [ht.2.2.1]; exact h.len, by rw [ht.2.2.1]; exact h.firm, by rw [ht.2.2.1, ht.2.2.2.2.1]; exact h.room, by rw [ht.2.2.2.2.1]; exact h.rm⟩
theorem BegI.append {F : List (BS × BS)} {B : Pl} (h : BegI F B) (k d : BS) : BegI F (doP B (.append k d)).1 := by
  have hi := inv_do h.inv (.append k d)
  have ht := h.tick
  have hr := tick_rest B
  rw [doP_append] at hi ⊢
  split at hi
  · rename_i h1; rw [if_pos h1]; exact ht
  · rename_i h1
    rw [if_neg h1]
    split at hi
    · rename_i h2; rw [if_pos h2]; exact ht
    · rename_i h2
      rw [if_neg h2]
      obtain ⟨g1, g2, g3⟩ := onP_zero (by simpa using h1)
      have hlt := h.inv.fnow _ g3
      simp only at hlt
      have hu := lenF_used g3
      refine ⟨hi, ht.now, ht.safe, ht.pend, by show (B.files.modify _ _).length = _; rw [List.length_modify]; exact h.len, fun i x f hx hf => ?_, fun x hx => ?_, ht.rm⟩
      · have hx : (B.files.modify (atP B k) fun x => (x.1 ++ d, x.2))[i]? = some x := hx
        rw [List.getElem?_modify] at hx
        cases hb : B.files[i]? with
        | none => rw [hb] at hx; cases hx
        | some y =>
          rw [hb] at hx
          have := h.firm i y f hb hf
          simp only [Option.map_eq_map, Option.map_some, Option.some.injEq] at hx
          split at hx <;> (rw [← hx]; exact this)
      · have hx : x ∈ B.files.modify (atP B k) fun x => (x.1 ++ d, x.2) := hx
        show _ ∨ x.1.length ≤ (tickP B).room
        rw [hr.2.2.2.2.1]
        obtain ⟨i, hi2, e⟩ := List.getElem_of_mem hx
        rw [List.length_modify] at hi2
        rw [List.getElem_modify] at e
        split at e
        · rename_i e2
          subst e2
          have : lenF B.files (atP B k) = B.files[atP B k].1.length := by unfold lenF; rw [List.getElem?_eq_getElem hi2]; rfl
          rw [← e]
          simp only [List.length_append]
          rcases Nat.eq_zero_or_pos d.length with h0 | h0
          · rcases h.room _ (List.getElem_mem hi2) with h3 | h3
            · left; omega
            · right; omega
          · right
            have : ¬ B.room < usedP B + d.length := fun e => h2 ⟨h0, e⟩
            simp only at hu
            omega
        · rw [← e]; exact h.room _ (List.getElem_mem hi2)
theorem BegI.sync {F : List (BS × BS)} {B : Pl} (h : BegI F B) (k : BS) : BegI F (doP B (.sync k)).1 := by
  have hi := inv_do h.inv (.sync k)
  have ht := h.tick
  have hr := tick_rest B
  rw [doP_sync] at hi ⊢
  split at hi
  · rename_i h1; rw [if_pos h1]; exact ht
  · rename_i h1
    rw [if_neg h1]
    refine ⟨hi, ht.now, ht.safe, ht.pend, by show (B.files.modify _ _).length = _; rw [List.length_modify]; exact h.len, fun i x f hx hf => ?_, fun x hx => ?_, ht.rm⟩
    · have hx : (B.files.modify (atP B k) fun x => (x.1, x.1.length))[i]? = some x := hx
      rw [List.getElem?_modify] at hx
      cases hb : B.files[i]? with
      | none => rw [hb] at hx; cases hx
      | some y =>
        rw [hb] at hx
        have := h.firm i y f hb hf
        have h4 := h.inv.firm y (List.mem_of_getElem? hb)
        simp only [Option.map_eq_map, Option.map_some, Option.some.injEq] at hx
        split at hx
        · rw [← hx]; simp only; omega
        · rw [← hx]; exact this
    · have hx : x ∈ B.files.modify (atP B k) fun x => (x.1, x.1.length) := hx
      show _ ∨ x.1.length ≤ (tickP B).room
      rw [hr.2.2.2.2.1]
      obtain ⟨i, hi2, e⟩ := List.getElem_of_mem hx
      rw [List.length_modify] at hi2
      rw [List.getElem_modify] at e
      split at e
      · rw [← e]; exact .inl rfl
      · rw [← e]; exact h.room _ (List.getElem_mem hi2)
theorem BegI.leftN {F : List (BS × BS)} {B : Pl} (h : BegI F B) (n : Int) : leftNP B n = numF 0 F := by
  unfold leftNP
  rw [h.pend, h.safe]
  simp
theorem BegI.left {F : List (BS × BS)} {B : Pl} (h : BegI F B) (n : Int) (keep : List Int) : (leftP B n keep).length = F.length ∧ (leftP B n keep).map (·.1) = F.map (·.1) := by
  refine ⟨?_, ?_⟩
  · unfold leftP; rw [List.length_map, h.leftN, numF_length]
  · rw [leftP_names, h.leftN, numF_names]
theorem BegI.read {F : List (BS × BS)} {B : Pl} (h : BegI F B) (hd : downP B = false) (n : Int) (keep : List Int) {i : Nat} {x : BS × BS} (hx : (leftP B n keep)[i]? = some x) :
    ∃ f, F[i]? = some f ∧ x.1 = f.1 ∧ readEP B x.1 = 0 ∧ readP B x.1 = datP B i ∧ x.2 = leftDP B keep i ∧ f.2.length ≤ firmP B i ∧ firmP B i ≤ (datP B i).length ∧ ((datP B i).length = firmP B i ∨ (datP B i).length ≤ 1073741824) := by
  unfold leftP at hx
  rw [List.getElem?_map, h.leftN, numF_get] at hx
  cases hf : F[i]? with
  | none => rw [hf] at hx; cases hx
  | some f =>
    rw [hf] at hx
    simp only [Option.map_some, Option.some.injEq, Nat.zero_add] at hx
    subst hx
    have hilt : i < B.files.length := by rw [h.len]; exact (List.getElem?_eq_some_iff.1 hf).1
    have hB : B.files[i]? = some B.files[i] := List.getElem?_eq_getElem hilt
    have hmem : (f.1, i) ∈ B.now := by
      rw [h.now]
      have := numF_get F 0 i
      rw [hf] at this
      simp only [Option.map_some, Nat.zero_add] at this
      exact List.mem_of_getElem? this
    have hl := lookN_of_mem h.inv.rnow hmem
    have hg := h.inv.gnow _ hmem
    have he : readEP B f.1 = 0 := by
      unfold readEP
      rw [hd, hg, hl]; simp
    refine ⟨f, rfl, rfl, he, ?_, rfl, ?_, ?_, ?_⟩
    · unfold readP
      rw [if_pos he]
      unfold atP
      rw [hl]; rfl
    · have := h.firm i _ f hB hf
      unfold firmP
      rw [hB]; exact this
    · have := h.inv.firm _ (List.getElem_mem hilt)
      unfold firmP datP
      rw [hB]; exact this
    · have := h.room _ (List.getElem_mem hilt)
      have hrm := h.rm
      unfold firmP datP
      rw [hB]
      simp only [Option.map_some, Option.getD_some]
      omega
theorem leftD_prefix (B : Pl) (keep : List Int) (i : Nat) : leftDP B keep i <+: datP B i := List.take_prefix _ _
theorem leftD_length {B : Pl} (keep : List Int) (i : Nat) (h : firmP B i ≤ (datP B i).length) : firmP B i ≤ (leftDP B keep i).length := by
  unfold leftDP
  rw [List.length_take]
  omega
theorem leftD_whole {B : Pl} {keep : List Int} {i : Nat} {z : Int} (hk : keep[i]? = some z) (hz : 1073741824 ≤ z) (h : firmP B i ≤ (datP B i).length) (hr : (datP B i).length = firmP B i ∨ (datP B i).length ≤ 1073741824) : leftDP B keep i = datP B i := by
  unfold leftDP moreP
  rw [hk]
  exact List.take_of_length_le (by simp only; omega)
/-- what is left makes a disk of just these files -/
theorem again_new {A : Pl} (h : Inv A) (n : Int) (keep : List Int) : okF (leftP A n keep) := left_ok h n keep
theorem list_new {F : List (BS × BS)} (room : Int) (fails : List Int) : listP (newP F room fails (-1)) = F.map (·.1) := by
  unfold listP
  have : downP (newP F room fails (-1)) = false := by unfold downP newP; simp
  rw [this]
  exact numF_names F 0
end Go.Proofs.YtheoklhmlnfgjaaGreatDoor
/-
  A disk that New is making, with its first files.
-/
namespace Go.Proofs.YtheoklhmlnfgjaaGreatDoor
open Go.RowKit Go.Maps

def zipN (F : List FT) (G : List FileC) : NM := List.zipWith (fun x f => (x.1, f.blk)) F G
structure NewAt (wr : World) (F : List FT) (k dd bn : Nat) (room : Int) (fv : Value) (power : Int) (P : Nat → Prop) (G : List FileC) : Prop where
  blk : wr.heap[dd]? = some (.cells #[.map (some bn), .map none, .slice none 0 0, .int .i64 k, .int .i64 room, fv, .int .i64 power, .int .i64 0] 116 (0, 0))
  now : OwnN wr bn (zipN (F.take k) G)
  len : G.length = k
  kf : k ≤ F.length
  files : ∀ (i : Nat) (f : FileC), G[i]? = some f → FileAt wr P i f ∧ ∀ x, F[i]? = some x → f.data = x.2 ∧ f.firm = x.2.length
  apart : ApartF G
  ok : okF (F.take k)
theorem insN_last (k : BS) (f : Nat) : ∀ M : NM, (∀ y ∈ M, y.1 < k) → insN k f M = M ++ [(k, f)]
  | [], _ => rfl
  | (m, g) :: M, h => by
    have hm := h (m, g) (List.mem_cons_self ..)
    unfold insN
    rw [if_neg (fun e => by simp only [e] at hm; exact absurd hm (List.lt_irrefl _)), if_neg (fun e => absurd (List.lt_trans hm e) (List.lt_irrefl _)), insN_last k f M fun y hy => h y (List.mem_cons_of_mem _ hy)]
    rfl
theorem zipN_snoc {F : List FT} {G : List FileC} (x : FT) (f : FileC) (h : F.length = G.length) : zipN (F ++ [x]) (G ++ [f]) = zipN F G ++ [(x.1, f.blk)] := by
  unfold zipN
  rw [List.zipWith_append h]
  rfl
theorem zipN_mem {F : List FT} {G : List FileC} {y : BS × Nat} (h : y ∈ zipN F G) : (∃ x ∈ F, x.1 = y.1) ∧ ∃ f ∈ G, f.blk = y.2 := by
  unfold zipN at h
  obtain ⟨i, hi, e⟩ := List.getElem_of_mem h
  rw [List.getElem_zipWith] at e
  rw [← e]
  exact ⟨⟨_, List.getElem_mem _, rfl⟩, _, List.getElem_mem _, rfl⟩
theorem okF_snoc {F : List FT} {k : Nat} {x : FT} (hx : F[k]? = some x) (h : okF (F.take k)) (hg : badN x.1 = false) (hl : ∀ y, 0 < k → F[k - 1]? = some y → y.1 < x.1) : okF (F.take (k + 1)) ∧ ∀ y ∈ F.take k, y.1 < x.1 := by
  obtain ⟨hk, ex⟩ := List.getElem?_eq_some_iff.1 hx
  have hall : ∀ y ∈ F.take k, y.1 < x.1 := by
    intro y hy
    obtain ⟨i, hi, e⟩ := List.getElem_of_mem hy
    rw [List.length_take] at hi
    have hlast := hl F[k - 1] (by omega) (List.getElem?_eq_getElem (by omega))
    by_cases h1 : i = k - 1
    · subst h1
      rw [List.getElem_take] at e
      rw [← e]; exact hlast
    · have hp := List.pairwise_iff_getElem.1 h.2 i (k - 1) (by rw [List.length_take]; omega) (by rw [List.length_take]; omega) (by omega)
      rw [List.getElem_take, List.getElem_take] at hp
      rw [List.getElem_take] at e
      rw [← e]
      exact List.lt_trans hp hlast
  refine ⟨?_, hall⟩
  rw [List.take_succ_eq_append_getElem hk, ex]
  refine ⟨fun y hy => ?_, ?_⟩
  · rcases List.mem_append.1 hy with e | e
    · exact h.1 y e
    · rw [List.mem_singleton.1 e]; exact hg
  · rw [List.pairwise_append]
    refine ⟨h.2, List.pairwise_singleton _ _, fun a ha b hb => ?_⟩
    rw [List.mem_singleton.1 hb]
    exact hall a ha
theorem okF_bad {F : List FT} {k : Nat} {x : FT} (hx : F[k]? = some x) (h : badN x.1 = true ∨ ∃ y, 0 < k ∧ F[k - 1]? = some y ∧ ¬ y.1 < x.1) : ¬ okF F := by
  intro ho
  obtain ⟨hk, ex⟩ := List.getElem?_eq_some_iff.1 hx
  rcases h with h | ⟨y, h0, hy, hn⟩
  · have := ho.1 x (List.mem_of_getElem? hx)
    rw [h] at this; cases this
  · obtain ⟨hk2, ey⟩ := List.getElem?_eq_some_iff.1 hy
    have := List.pairwise_iff_getElem.1 ho.2 (k - 1) k hk2 hk (by omega)
    rw [ey, ex] at this
    exact hn this

/-- one file more -/
theorem NewAt.step {wr W4 W5 W6 : World} {F : List FT} {k dd bn g0 : Nat} {room power : Int} {fv v : Value} {P : Nat → Prop} {G : List FileC} {x : FT} (h : NewAt wr F k dd bn room fv power P G) (hx : F[k]? = some x)
    (hb : Below wr.heap.size wr W4) (hg0 : wr.heap.size ≤ g0) (hfile : W4.heap[g0]? = some (.cells #[.int .i64 k, v, .int .i64 x.2.length] 119 (0, 0))) (hown : Own8 W4 wr.heap.size v x.2)
    (hgr : W4.grownBy W5 (some bn)) (hmap : OwnN W5 bn (insN x.1 g0 (zipN (F.take k) G))) (h6 : W6 = W5.setCell ⟨dd, 3, none⟩ (.int .i64 ((k : Int) + 1))) (hP : ∀ g, wr.heap.size ≤ g → P g) (hok : okF (F.take (k + 1))) (hlast : ∀ y ∈ F.take k, y.1 < x.1) :
    NewAt W6 F (k + 1) dd bn room fv power P (G ++ [⟨g0, v, x.2, x.2.length⟩]) := by
  obtain ⟨hk, ex⟩ := List.getElem?_eq_some_iff.1 hx
  have hbn := map_ne h.now h.blk
  have hbnl := h.now.lt
  have keep : ∀ g, g < wr.heap.size → g ≠ bn → g ≠ dd → W6.heap[g]? = wr.heap[g]? := fun g h1 h2 h3 => by
    rw [h6]
    exact ((Below.heap_setCell _ _ _ _ h3).trans (hgr.block g (Nat.lt_of_lt_of_le h1 hb.size) (fun e => h2 (by injection e)))).trans (hb.block g h1)
  have keep4 : ∀ g, g < W4.heap.size → g ≠ bn → g ≠ dd → W6.heap[g]? = W4.heap[g]? := fun g h1 h2 h3 => by
    rw [h6]
    exact (Below.heap_setCell _ _ _ _ h3).trans (hgr.block g h1 (fun e => h2 (by injection e)))
  have hddl := lt_of_heap h.blk
  have hdd5 : W5.heap[dd]? = some (.cells #[.map (some bn), .map none, .slice none 0 0, .int .i64 k, .int .i64 room, fv, .int .i64 power, .int .i64 0] 116 (0, 0)) :=
    ((hgr.block dd (Nat.lt_of_lt_of_le hddl hb.size) (fun e => hbn (by injection e with e; exact e.symm))).trans (hb.block dd hddl)).trans h.blk
  refine ⟨?_, ?_, by rw [List.length_append, h.len]; rfl, by omega, ?_, ?_, hok⟩
  · rw [h6]
    simp only [World.setCell, Array.getElem?_modify, hdd5]
    simp
  · have e : zipN (F.take (k + 1)) (G ++ [⟨g0, v, x.2, x.2.length⟩]) = insN x.1 g0 (zipN (F.take k) G) := by
      rw [List.take_succ_eq_append_getElem hk, ex, zipN_snoc x _ (by rw [List.length_take, h.len]; omega), insN_last _ _ _ fun y hy => ?_]
      obtain ⟨⟨z, hz, e⟩, _⟩ := zipN_mem hy
      rw [← e]; exact hlast z hz
    rw [e]
    exact hmap.kept (by rw [h6]; exact Below.heap_setCell _ _ _ _ hbn)
  · intro i f hf
    by_cases hi : i < G.length
    · rw [List.getElem?_append_left hi] at hf
      obtain ⟨⟨a1, a2, a3, a4, a5⟩, a6⟩ := h.files i f hf
      have hf1 := lt_of_heap a1
      refine ⟨⟨(keep _ hf1 (fun e => map_ne h.now a1 e.symm) (blk_ne a1 h.blk (by decide))).trans a1, ?_, a3, a4, a5⟩, a6⟩
      refine ⟨a2.1, ?_⟩
      rcases a2.2 with h0 | ⟨g, cap, cur, e, c1, c2, r⟩
      · exact .inl h0
      · exact .inr ⟨g, cap, cur, e, c1, (keep g (lt_of_heap c2) (fun e => map_ne h.now c2 e.symm) (blk_ne c2 h.blk (by decide))).trans c2, r⟩
    · have hlt := (List.getElem?_eq_some_iff.1 hf).1
      rw [List.length_append] at hlt
      simp only [List.length_cons, List.length_nil] at hlt
      obtain rfl : i = G.length := by omega
      rw [List.getElem?_append_right (Nat.le_refl _)] at hf
      simp only [Nat.sub_self, List.getElem?_cons_zero, Option.some.injEq] at hf
      subst hf
      have hgk := h.len
      refine ⟨⟨?_, ?_, fun r hr => hP r (World.ownsRow.lt hown r hr).1, hP _ hg0, Nat.le_refl _⟩, fun y hy => ?_⟩
      · show W6.heap[g0]? = some (.cells #[.int .i64 (G.length : Nat), v, .int .i64 (x.2.length : Nat)] 119 (0, 0))
        rw [hgk]
        exact (keep4 g0 (lt_of_heap hfile) (by omega) (by omega)).trans hfile
      · show Own8 W6 0 v x.2
        refine ⟨hown.1, ?_⟩
        rcases hown.2 with h0 | ⟨g, cap, cur, e, c1, c2, r⟩
        · exact .inl h0
        · exact .inr ⟨g, cap, cur, e, Nat.zero_le _, (keep4 g (lt_of_heap c2) (by omega) (by omega)).trans c2, r⟩
      · rw [hgk] at hy
        rw [hx] at hy
        injection hy with hy
        rw [← hy]
        exact ⟨rfl, rfl⟩
  · show List.Pairwise _ _
    rw [List.pairwise_append]
    refine ⟨h.apart, List.pairwise_singleton _ _, fun z hz y hy => ?_⟩
    rw [List.mem_singleton.1 hy]
    obtain ⟨j, hj, e⟩ := List.getElem_of_mem hz
    obtain ⟨⟨a1, a2, _⟩, _⟩ := h.files j z (by rw [List.getElem?_eq_getElem hj, e])
    refine ⟨fun e3 => ?_, fun r hr e3 => ?_⟩
    · have := lt_of_heap a1
      simp only at e3
      omega
    · obtain ⟨cur, hc⟩ := rowBlk a2 hr
      have h1 := lt_of_heap hc
      have h2 := (World.ownsRow.lt hown r e3).1
      omega

/-- the disk is made -/
theorem NewAt.done {wr w1 W : World} {F : List FT} {dd bn bs : Nat} {room power : Int} {fv : Value} {fp : Option Addr} {fc : Nat} {Z : List Int} {B : Nat} {G : List FileC} (h : NewAt wr F F.length dd bn room fv power (fun g => B ≤ g ∧ fv.ownBlock ≠ some g) G)
    (hfv : fv = .slice fp Z.length fc) (hrow : wr.ownsRow B 3 1 fv Z.length (Z.map (Value.int .i64))) (hb : Below wr.heap.size wr w1) (hbs : bs = wr.heap.size) (hsafe : OwnN w1 bs (zipN F G)) (hW : W = w1.setCell ⟨dd, 1, none⟩ (.map (some bs))) (h0 : 0 ≤ room) (hB : B ≤ dd ∧ B ≤ bn) (hBs : B ≤ wr.heap.size) :
    ∃ S, DiskAt W (fun g => B ≤ g ∧ fv.ownBlock ≠ some g) dd S ∧ absD S = newP F room Z power ∧ ∀ a, S.fp = some a → B ≤ a.block := by
  obtain ⟨fq, hfq, hBf⟩ : ∃ fq : Option Nat, fp = fq.map (fun b => (⟨b, 0, none⟩ : Addr)) ∧ ∀ a, fp = some a → B ≤ a.block := by
    rcases hrow.2 with ⟨e, _⟩ | ⟨g, cap, cur, e, hg, _⟩
    · rw [hfv] at e
      injection e with e _ _
      exact ⟨none, e, fun a ha => by rw [e] at ha; cases ha⟩
    · rw [hfv] at e
      injection e with e _ _
      exact ⟨some g, e, fun a ha => by rw [e] at ha; injection ha with ha; subst ha; exact hg⟩
  subst hfq
  have hnow := h.now
  rw [List.take_length] at hnow
  have hbnl := hnow.lt
  have hddl := lt_of_heap h.blk
  have hbn := map_ne hnow h.blk
  have keep : ∀ g, g < wr.heap.size → g ≠ dd → W.heap[g]? = wr.heap[g]? := fun g h1 h2 => by
    rw [hW]
    exact (Below.heap_setCell _ _ _ _ h2).trans (hb.block g h1)
  have hrm : (room.toNat : Int) = room := by omega
  have hblk : W.heap[dd]? = some (.cells (diskCells ⟨bn, bs, zipN F G, zipN F G, .slice none 0 0, [], [], G, room.toNat, fv, fq, fc, Z, power, 0⟩) 116 (0, 0)) := by
    have hdd1 := (hb.block dd hddl).trans h.blk
    rw [hW]
    simp only [World.setCell, Array.getElem?_modify, hdd1]
    simp [diskCells, h.len, hrm]
  have hfl : ∀ (g : Nat), fv.ownBlock = some g → ∃ cur, wr.heap[g]? = some (.cells cur 3 (0, 0)) := fun g hg => rowBlk hrow hg
  refine ⟨⟨bn, bs, zipN F G, zipN F G, .slice none 0 0, [], [], G, room.toNat, fv, fq, fc, Z, power, 0⟩, ⟨hblk, ?_, ?_, by show bn ≠ bs; omega, World.ownsRow_nil _ _ _ _, fun i v c h1 => by simp at h1, ⟨hfv, ?_, ?_⟩, ?_, h.apart, ?_, ?_, ⟨⟨hB.1, fun e => ?_⟩, ⟨hB.2, fun e => ?_⟩, ⟨by show B ≤ bs; omega, fun e => ?_⟩, fun r hr => by cases hr⟩⟩, ?_, hBf⟩
  · exact hnow.kept (keep bn hbnl hbn)
  · have hne : bs ≠ dd := by omega
    exact hsafe.kept (by rw [hW]; exact Below.heap_setCell _ _ _ _ hne)
  · obtain ⟨p', c', e, _, _, hin, _⟩ := owns_shape hrow
    rw [hfv] at e
    injection e with e _ _
    subst e
    intro h1
    obtain ⟨b, o, e, hc⟩ := hin h1
    have hob : fv.ownBlock = some b := by rw [hfv, e]; rfl
    obtain ⟨cur, hcur⟩ := hfl b hob
    refine ⟨b, o, e, fun i hi => ?_⟩
    have := hc i hi
    have hk := keep b (lt_of_heap hcur) (blk_ne hcur h.blk (by decide))
    simp only [World.cell?, hk]
    exact this
  · intro a ha h1 hPa
    have ha : fq.map (fun b => (⟨b, 0, none⟩ : Addr)) = some a := ha
    exact hPa.2 (by rw [hfv, ha]; rfl)
  · intro i f hf
    obtain ⟨⟨a1, a2, a3, a4, a5⟩, _⟩ := h.files i f hf
    refine ⟨(keep _ (lt_of_heap a1) (blk_ne a1 h.blk (by decide))).trans a1, ?_, a3, a4, a5⟩
    refine ⟨a2.1, ?_⟩
    rcases a2.2 with h0 | ⟨g, cap, cur, e, c1, c2, r⟩
    · exact .inl h0
    · exact .inr ⟨g, cap, cur, e, c1, (keep g (lt_of_heap c2) (blk_ne c2 h.blk (by decide))).trans c2, r⟩
  · intro x hx
    obtain ⟨_, f, hf, e⟩ := zipN_mem hx
    exact ⟨f, hf, e⟩
  · intro x hx
    obtain ⟨_, f, hf, e⟩ := zipN_mem hx
    exact ⟨f, hf, e⟩
  · obtain ⟨cur, hc⟩ := hfl dd e
    exact blk_ne hc h.blk (by decide) rfl
  · obtain ⟨cur, hc⟩ := hfl bn e
    exact map_ne hnow hc rfl
  · obtain ⟨cur, hc⟩ := hfl bs e
    have := lt_of_heap hc
    omega
  · have hz : mapN (noF G) (zipN F G) = numF 0 F := by
      apply List.ext_getElem?
      intro i
      unfold mapN zipN
      rw [List.getElem?_map, numF_get, List.getElem?_zipWith]
      cases hF : F[i]? with
      | none => simp
      | some x =>
        have hi := (List.getElem?_eq_some_iff.1 hF).1
        have hlen := h.len
        have hG : G[i]? = some G[i] := List.getElem?_eq_getElem (by omega)
        rw [hG]
        simp only [Option.map_some, Nat.zero_add, Option.some.injEq, Prod.mk.injEq, true_and]
        exact noF_at G i _ h.apart hG
    unfold absD newP
    simp only [hz, Pl.mk.injEq, List.map_nil, true_and, and_true]
    apply List.ext_getElem?
    intro i
    rw [List.getElem?_map, List.getElem?_map]
    have hlen := h.len
    cases hF : F[i]? with
    | none =>
      have : F.length ≤ i := List.getElem?_eq_none_iff.1 hF
      rw [List.getElem?_eq_none (by omega)]; rfl
    | some x =>
      have hi := (List.getElem?_eq_some_iff.1 hF).1
      have hG : G[i]? = some G[i] := List.getElem?_eq_getElem (by omega)
      obtain ⟨_, a6⟩ := h.files i _ hG
      obtain ⟨e1, e2⟩ := a6 x hF
      rw [hG]
      simp only [Option.map_some, e1, e2]
end Go.Proofs.YtheoklhmlnfgjaaGreatDoor
/-
  Left: what a loss of power leaves.
-/
namespace Go.Proofs.YtheoklhmlnfgjaaGreatDoor
open Go.RowKit Go.Maps

/-- the names behind the first changes -/
def stN (S : DiskC) (n : Int) (i : Nat) : NM := (S.pend.take (min i n.toNat)).foldl (fun M c => applyC c M) S.safe
theorem stN_zero (S : DiskC) (n : Int) : stN S n 0 = S.safe := by unfold stN; simp
theorem stN_step (S : DiskC) (n : Int) (i : Nat) (c : Chg) (hc : S.pend[i]? = some c) (h : (i : Int) < n) : stN S n (i + 1) = applyC c (stN S n i) := by
  unfold stN
  have e1 : min (i + 1) n.toNat = i + 1 := by omega
  have e2 : min i n.toNat = i := by omega
  obtain ⟨hi, e⟩ := List.getElem?_eq_some_iff.1 hc
  rw [e1, e2, List.take_succ_eq_append_getElem hi, e, List.foldl_append]
  rfl
theorem stN_skip (S : DiskC) (n : Int) (i : Nat) (h : ¬ (i : Int) < n) : stN S n (i + 1) = stN S n i := by
  unfold stN
  have e1 : min (i + 1) n.toNat = n.toNat := by omega
  have e2 : min i n.toNat = n.toNat := by omega
  rw [e1, e2]
theorem stN_end (S : DiskC) (n : Int) : mapN (noF S.files) (stN S n S.pend.length) = leftNP (absD S) n := by
  unfold stN leftNP
  have e : S.pend.take (min S.pend.length n.toNat) = S.pend.take n.toNat := by
    rw [List.take_eq_take_iff]; omega
  rw [e]
  unfold absD
  simp only
  rw [← List.map_take, fold_map]
theorem stN_length (S : DiskC) (n : Int) (i : Nat) : (stN S n i).length ≤ S.safe.length + S.pend.length := by
  unfold stN
  refine Nat.le_trans (fold_length _ _) ?_
  rw [List.length_take]
  omega
theorem fold_file (S : DiskC) : ∀ (C : List Chg) (M : NM), (∀ x ∈ M, HasFile S x.2) → (∀ c ∈ C, ChgFile S c) → ∀ x ∈ C.foldl (fun M c => applyC c M) M, HasFile S x.2
  | [], _, h, _ => h
  | c :: C, M, h, hc => fold_file S C _ (fun x hx => by
      have h1 := hc c (List.mem_cons_self ..)
      cases c with
      | put k f =>
        rcases insN_mem k f x M hx with e | e
        · rw [e]; exact h1
        · exact h x e
      | ren a k f =>
        rcases insN_mem k f x _ hx with e | e
        · rw [e]; exact h1
        · exact h x (delN_mem e).1
      | del k => exact h x (delN_mem hx).1) fun d hd => hc d (List.mem_cons_of_mem _ hd)
theorem good_len {l : List UInt8} (h : badN l = false) : l.length ≤ 64 := by
  unfold badN goodN at h
  simp at h
  exact h.1.2
theorem left_at {S : DiskC} {n : Int} {K : List Int} {M : NM} (hM : mapN (noF S.files) M = leftNP (absD S) n) {k : Nat} (hk : k < M.length) {no : Nat} {f : FileC} (hap : ApartF S.files) (hf : S.files[no]? = some f) (hg : f.blk = M[k].2) :
    (leftP (absD S) n K)[k]? = some (M[k].1, f.data.take (f.firm + moreP K no (f.data.length - f.firm))) := by
  unfold leftP
  rw [← hM]
  unfold mapN
  rw [List.getElem?_map, List.getElem?_map, List.getElem?_eq_getElem hk]
  simp only [Option.map_some, Option.some.injEq, Prod.mk.injEq, true_and]
  have e : noF S.files M[k].2 = no := by rw [← hg]; exact noF_at _ _ _ hap hf
  rw [e]
  unfold leftDP
  rw [(datP_of hf).1, (datP_of hf).2]
theorem take_snoc_get {α : Type} {L : List α} {k : Nat} {x : α} (h : L[k]? = some x) : L.take (k + 1) = L.take k ++ [x] := by
  obtain ⟨hi, e⟩ := List.getElem?_eq_some_iff.1 h
  rw [List.take_succ_eq_append_getElem hi, e]
theorem In8.take {w : World} {p : Option Addr} {l : List UInt8} (h : In8 w p l) (m : Nat) : In8 w p (l.take m) := by
  have e : l = l.take m ++ l.drop m := (List.take_append_drop m l).symm
  rw [e] at h
  exact h.fore
theorem stN_file {w : World} {P : Nat → Prop} {dd : Nat} {S : DiskC} (h : DiskAt w P dd S) (n : Int) (i : Nat) : ∀ x ∈ stN S n i, HasFile S x.2 :=
  fold_file S _ _ h.safeF fun c hc => h.pendF c (List.mem_of_mem_take hc)

set_option maxRecDepth 100000 in
set_option maxHeartbeats 4000000 in
theorem left_p {w : World} {P : Nat → Prop} {dd : Nat} {A : Pl} (h : DiskP w P dd A) (n : Int) (K : List Int) (kp : Option Addr) (kc : Nat) (hK : InV w kp (K.map (Value.int .i64))) (hinv : Inv A) (hpl : A.pend.length ≤ 1000000) (hsl : A.safe.length ≤ 4000000000000) (hdat : ∀ f ∈ A.files, f.1.length ≤ 140737488351232) :
    Calls Tryz.prog 29 #[.pointer (some ⟨dd, 0, none⟩), .agg #[.int .i64 n, .slice kp K.length kc]] w fun e w' => ∃ v, e = .returned v ∧ OwnFs w' w.heap.size v (leftP A n K) ∧ Below w.heap.size w w' := by
  obtain ⟨S, h, rfl⟩ := h
  rw [(abs_len S).2.1] at hpl
  rw [(abs_len S).2.2.2] at hsl
  obtain ⟨wa, hwa⟩ : ∃ W0, W0 = w.alloc (.cells #[.int .i64 n, .slice kp K.length kc] 43) := ⟨_, rfl⟩
  have hba : Below w.heap.size w wa := by rw [hwa]; exact (Below.refl _ w).alloc (Nat.le_refl _) _
  have hfa : wa.heap[w.heap.size]? = some (.cells #[.int .i64 n, .slice kp K.length kc] 43 (0, 0)) := by rw [hwa]; exact heap_alloc_new w _
  have ha := h.below hba
  have c1 : wa.cell? ⟨dd, 1, none⟩ = some (.map (some S.bs)) := ha.cell 1
  have hcl := cloneF_any ha.safe
  have hsza : wa.heap.size = w.heap.size + 1 := by rw [hwa]; simp
  have HA := Lib.hid (And.intro hba (And.intro hfa hsza))
  rw [hwa] at c1 hcl
  have HWA := Lib.hid hwa
  clear hwa hba hfa ha hsza
  go_enter Tryz.func29, Tryz.ntmps29
  go_wp2_with fail
  refine hcl.mono ?_
  rw [← HWA.out]
  rintro e w1 ⟨rfl, hm1, hb1⟩
  clear hcl
  obtain ⟨hba, hfa, hsza⟩ := HA.out
  have hB1 : Below w.heap.size w w1 := hba.trans (hb1.mono (by omega))
  have h1 := h.below hB1
  have c2 : w1.cell? ⟨dd, 2, none⟩ = some S.pv := h1.cell 2
  obtain ⟨pp, pc, hpv⟩ := h1.pvForm
  rw [hpv] at c2
  have hf1 : w1.heap[w.heap.size]? = some (.cells #[.int .i64 n, .slice kp K.length kc] 43 (0, 0)) := (hb1.block _ (lt_of_heap hfa)).trans hfa
  have hs1 : w.heap.size + 2 ≤ w1.heap.size := by have := hm1.lt; omega
  have HS1 := Lib.hid hs1
  have HPV := Lib.hid hpv
  have HSZ := Lib.hid hsza
  clear hba hfa hsza hpv hs1
  go_wp2_with fail
  go_loopw [23] (fun i wr => ∃ k : Nat, k ≤ S.pend.length ∧ i = .int .i64 k ∧ OwnN wr wa.heap.size (stN S n k) ∧ Below w.heap.size w wr ∧ wr.heap[w.heap.size]? = some (.cells #[.int .i64 n, .slice kp K.length kc] 43 (0, 0))) (fun i _ => S.pend.length - (intOf i).toNat)
  case atStart => exact ⟨0, Nat.zero_le _, rfl, by rw [stN_zero]; exact hm1, hB1, hf1⟩
  case round =>
    obtain ⟨k, hk, rfl, hm, hb, hf⟩ := hrel
    have hr := h.below hb
    have cf : wr.cell? ⟨w.heap.size, 0, none⟩ = some (.int .i64 n) := by rw [cell_of_row _ _ _ _ _ _ hf]; rfl
    have HF := Lib.hid (And.intro hf hm1)
    clear hf1 hf hm1 c2
    by_cases hlt : k < S.pend.length
    · have hlen : S.pvals.length = S.pend.length := by have := hr.row.1; omega
      obtain ⟨q0, c0, hq0, _, _, hin, _⟩ := owns_shape hr.row
      rw [HPV.out] at hq0
      injection hq0 with hq0 _ hq2
      subst hq0
      subst hq2
      obtain ⟨b, o, rfl, hc⟩ := hin.at (k := k) (by omega)
      have hck := hc k (by omega)
      obtain ⟨hch, hcf⟩ := hr.chg k S.pvals[k] S.pend[k] (List.getElem?_eq_getElem (by omega)) (List.getElem?_eq_getElem hlt)
      have hget : S.pend[k]? = some S.pend[k] := List.getElem?_eq_getElem hlt
      generalize S.pend[k] = cc at hch hcf hget
      generalize S.pvals[k] = vv at hck hch
      obtain ⟨g, cap, hv, hcall⟩ := chg_call hm hch (by have := stN_length S n k; unfold maxLen; omega)
      subst hv
      have hent := chg_enter hch
      have HG := Lib.hid hget
      clear hc hin hch hcf hget
      by_cases hn : (k : Int) < n
      · have HN := Lib.hid hn
        go_wp2_with fail
        refine hcall.mono ?_
        rintro e w2 ⟨rfl, hm2, hg2, hsz2⟩
        clear hcall hent
        go_wp2_with fail
        have hba := HA.out.2.2
        have hgl := hb.grown hg2 (by have := hm.lt; omega) (fun j e => by injection e with e; omega)
        go_roundw
        case rel => exact ⟨k + 1, by omega, by go_num, by rw [stN_step S n k cc HG.out HN.out]; exact hm2, hgl, (hg2.block _ (lt_of_heap HF.out.1) (fun e => by injection e with e; omega)).trans HF.out.1⟩
        case measure => simp [intOf]; omega
      · have HN := Lib.hid hn
        have hn2 : decide ((k : Int) < n) = false := decide_eq_false hn
        go_wp2_with fail
        go_roundw
        case rel => exact ⟨k + 1, by omega, by go_num, by rw [stN_skip S n k HN.out]; exact hm, hb, HF.out.1⟩
        case measure => simp [intOf]; omega
    · obtain rfl : k = S.pend.length := by omega
      have hML := stN_length S n S.pend.length
      have hMN := stN_end S n
      have hMF := stN_file hr n S.pend.length
      have hkeys := keysF_any (some wa.heap.size) wr
      have hso := sortedF_any wr hm (by omega)
      generalize stN S n S.pend.length = M at hm hML hMN hMF hso
      have HMN := Lib.hid (And.intro hMN hMF)
      clear hMN hMF
      go_wp2_with fail
      refine hkeys.mono ?_
      rintro e w2 ⟨rfl, rfl⟩
      clear hkeys
      go_wp2_with fail
      refine hso.mono ?_
      rintro e w3 ⟨v, rfl, hown, hb3⟩
      clear hso
      have hB3 : Below w.heap.size w w3 := hb.trans (hb3.mono hb.size)
      have hm3 := hm.below hb3
      have hf3 := (hb3.block _ (lt_of_heap HF.out.1)).trans HF.out.1
      obtain ⟨pv, cv, rfl, _, _, hin3, _⟩ := hown.shape (n := M.length) (by simp)
      have HM := Lib.hid (And.intro hB3 (And.intro hm3 (And.intro hf3 hin3)))
      clear hm hown hb3 hm3 hf3 hin3 hB3 hb hr cf c1
      obtain ⟨wo, hwo⟩ : ∃ x, x = wr := ⟨_, rfl⟩
      subst hwo
      go_wp2_with fail
      go_loopw [8, 40] (fun vo i wr => ∃ k : Nat, k ≤ M.length ∧ i = .int .i64 k ∧ OwnFs wr w3.heap.size vo ((leftP (absD S) n K).take k) ∧ Below w3.heap.size w3 wr) (fun _ i _ => M.length - (intOf i).toNat)
      case atStart => exact ⟨0, Nat.zero_le _, rfl, by rw [List.take_zero]; exact OwnFs.nil _ _, Below.refl _ _⟩
      case round =>
        obtain ⟨k, hk, rfl, hown, hb⟩ := hrel
        by_cases hlt : k < M.length
        · obtain ⟨hB3, hm3, hf3, hin3⟩ := HM.out
          have hbr := hB3.trans (hb.mono hB3.size)
          have hr := h.below hbr
          have hmr := hm3.below hb
          have hfr := (hb.block _ (lt_of_heap hf3)).trans hf3
          obtain ⟨b, o, rfl, x, hcx, hx⟩ := (hin3.below hb).at (k := k) (by simpa using hlt)
          rw [List.getElem_map] at hx
          have hlk : lookN M x.data.toList = some M[k].2 := by rw [hx]; exact lookN_of_mem hm3.1 (List.getElem_mem hlt)
          have hxs : x.size ≤ maxLen := by
            have hmem : (M[k].1, noF S.files M[k].2) ∈ leftNP (absD S) n := by
              rw [← HMN.out.1]
              exact List.mem_map.2 ⟨M[k], List.getElem_mem hlt, rfl⟩
            have := good_len (leftN_good hinv n _ hmem)
            simp only at this
            rw [← hx, size_list] at this
            unfold maxLen
            omega
          have hrun := run_lookF hmr x hxs
          rw [hlk] at hrun
          unfold fileV at hrun
          obtain ⟨f, hfm, hfg⟩ := HMN.out.2 M[k] (List.getElem_mem hlt)
          obtain ⟨no, hno, eno⟩ := List.getElem_of_mem hfm
          have hfi : S.files[no]? = some f := by rw [List.getElem?_eq_getElem hno, eno]
          have hat := left_at (K := K) HMN.out.1 hlt h.apart hfi hfg
          obtain ⟨b1, b2, b3, b4, b5⟩ := hr.files no f hfi
          obtain ⟨qf, cq, hval, hc1, hc2, hinf⟩ := b2.in8n rfl
          have hlen : f.data.length ≤ 140737488351232 := hdat (f.data, f.firm) (List.mem_map.2 ⟨f, hfm, rfl⟩)
          rw [hfg] at b1
          have d0 : wr.cell? ⟨M[k].2, 0, none⟩ = some (.int .i64 no) := by rw [cell_of_row _ _ _ _ _ _ b1]; rfl
          have d1 : wr.cell? ⟨M[k].2, 1, none⟩ = some (.slice qf f.data.length cq) := by rw [cell_of_row _ _ _ _ _ _ b1, ← hval]; rfl
          have d2 : wr.cell? ⟨M[k].2, 2, none⟩ = some (.int .i64 f.firm) := by rw [cell_of_row _ _ _ _ _ _ b1]; rfl
          have e1 : wr.cell? ⟨w.heap.size, 1, none⟩ = some (.slice kp K.length kc) := by rw [cell_of_row _ _ _ _ _ _ hfr]; rfl
          obtain ⟨gb, hgb⟩ : ∃ gb, gb = M[k].2 := ⟨_, rfl⟩
          rw [← hgb] at hrun d0 d1 d2
          have HAT := Lib.hid hat
          have HX := Lib.hid hx
          have HIN := Lib.hid hinf
          have hqn : qf = none → cq = 0 := fun e => by
            subst e
            rcases b2.2 with ⟨e, _⟩ | ⟨g', cap, cur, e, _⟩
            · rw [hval] at e; injection e
            · rw [hval] at e; injection e with e; cases e
          have hle : f.firm ≤ f.data.length := b5
          clear hat hx hinf hfm hno eno hfi hr hmr hfr b1 b2 b3 b4 b5 hval hlk hgb hfg hB3 hm3 hf3 hin3
          by_cases hin : no < K.length
          · obtain ⟨kb, ko, rfl, hkc⟩ := hK.at (k := no) (by simpa using hin)
            have hkn := hkc no (by simpa using hin)
            rw [List.getElem_map] at hkn
            have hkn := (hbr.cell (World.block_lt_of_cell? w _ hkn)).trans hkn
            obtain ⟨z, hz⟩ : ∃ z, z = K[no] := ⟨_, rfl⟩
            rw [← hz] at hkn
            obtain ⟨nn, hnn⟩ : ∃ nn, nn = f.firm + moreP K no (f.data.length - f.firm) := ⟨_, rfl⟩
            have hmore : moreP K no (f.data.length - f.firm) = (min z ((f.data.length - f.firm : Nat) : Int)).toNat := by unfold moreP; rw [List.getElem?_eq_getElem hin, ← hz]
            have hnl : nn ≤ f.data.length := by omega
            have HWR := Lib.hid (show (f.firm : Int) + max 0 (min z ((f.data.length : Int) - (f.firm : Int))) = (nn : Int) by omega)
            have HNN := Lib.hid hnn
            clear hkc hz hnn hmore
            go_wp2_with fail
            go_quiet (fail)
            go_wp2_with fail
            go_quiet (fail)
            rename_i nq1
            rw [HWR.out]
            have hbd : Below wr.heap.size wr (wr.drewN (nq1 + nq)) := bdrewN (Below.refl _ wr) _
            have hcl := cloneB_any (f.data.take nn) qf nn cq (by rw [List.length_take]; omega) (by omega) hqn (wr.drewN (nq1 + nq)) ((HIN.out.below hbd).take nn)
            have HBD := Lib.hid hbd
            have HOW := Lib.hid hown
            clear hbd hown
            go_wp2_with fail
            refine hcl.mono ?_
            rintro e w4 ⟨v4, rfl, hown4, hb4⟩
            clear hcl
            have hb34 : Below w3.heap.size w3 w4 := hb.trans ((HBD.out.trans (hb4.mono HBD.out.size)).mono hb.size)
            have hfs4 := (HOW.out.below HBD.out).below hb4
            have hown4' : Own8 w4 w3.heap.size v4 (f.data.take nn) := hown4.mono (Nat.le_trans hb.size HBD.out.size)
            obtain ⟨p4, c4, rfl, _, _, _⟩ := hown4.in8n (n := nn) (by rw [List.length_take]; omega)
            have hfs5 := hfs4.below ((Below.refl _ w4).alloc (Nat.le_refl _) (.cells #[.string x, .slice p4 nn c4] 89))
            have hown5 := hown4'.alloc (.cells #[.string x, .slice p4 nn c4] 89)
            have hine := InE.one w4 x (.slice p4 nn c4) 89
            have HB4 := Lib.hid hb34
            clear hown4 hown4' hb4 hfs4 hb34
            go_wp2_with (
              at_builtin
              refine wpList_appendFs rfl _ _ rfl w3.heap.size _ _ rfl hfs5 w4.heap.size _ x.data.toList (.slice p4 nn c4) (f.data.take nn) rfl hine hown5 (by rw [List.length_take]; omega) (by have := HB4.out.size; simp; omega) ?_
              intro v6 w6 hfs6 hg6
              have hb6 := hfs5.grown (HB4.out.alloc HB4.out.size _) (by have := HB4.out.size; simp; omega) hg6
              clear hg6)
            go_roundw
            case rel => exact ⟨k + 1, by omega, by go_num, by rw [take_snoc_get HAT.out, ← HX.out, ← HNN.out]; exact hfs6, hb6⟩
            case measure => simp [intOf]; omega
          · obtain ⟨nn, hnn⟩ : ∃ nn, nn = f.firm + moreP K no (f.data.length - f.firm) := ⟨_, rfl⟩
            have hmore : moreP K no (f.data.length - f.firm) = 0 := by unfold moreP; rw [List.getElem?_eq_none (by omega)]
            have hnf : nn = f.firm := by omega
            have hnl : nn ≤ f.data.length := by omega
            have HNN := Lib.hid hnn
            rw [← hnf] at d2
            clear hnn hmore hnf
            go_wp2_with fail
            go_quiet (fail)
            have hbd : Below wr.heap.size wr (wr.drewN nq) := bdrewN (Below.refl _ wr) _
            have hcl := cloneB_any (f.data.take nn) qf nn cq (by rw [List.length_take]; omega) (by omega) hqn (wr.drewN nq) ((HIN.out.below hbd).take nn)
            have HBD := Lib.hid hbd
            have HOW := Lib.hid hown
            clear hbd hown
            go_wp2_with fail
            refine hcl.mono ?_
            rintro e w4 ⟨v4, rfl, hown4, hb4⟩
            clear hcl
            have hb34 : Below w3.heap.size w3 w4 := hb.trans ((HBD.out.trans (hb4.mono HBD.out.size)).mono hb.size)
            have hfs4 := (HOW.out.below HBD.out).below hb4
            have hown4' : Own8 w4 w3.heap.size v4 (f.data.take nn) := hown4.mono (Nat.le_trans hb.size HBD.out.size)
            obtain ⟨p4, c4, rfl, _, _, _⟩ := hown4.in8n (n := nn) (by rw [List.length_take]; omega)
            have hfs5 := hfs4.below ((Below.refl _ w4).alloc (Nat.le_refl _) (.cells #[.string x, .slice p4 nn c4] 89))
            have hown5 := hown4'.alloc (.cells #[.string x, .slice p4 nn c4] 89)
            have hine := InE.one w4 x (.slice p4 nn c4) 89
            have HB4 := Lib.hid hb34
            clear hown4 hown4' hb4 hfs4 hb34
            go_wp2_with (
              at_builtin
              refine wpList_appendFs rfl _ _ rfl w3.heap.size _ _ rfl hfs5 w4.heap.size _ x.data.toList (.slice p4 nn c4) (f.data.take nn) rfl hine hown5 (by rw [List.length_take]; omega) (by have := HB4.out.size; simp; omega) ?_
              intro v6 w6 hfs6 hg6
              have hb6 := hfs5.grown (HB4.out.alloc HB4.out.size _) (by have := HB4.out.size; simp; omega) hg6
              clear hg6)
            go_roundw
            case rel => exact ⟨k + 1, by omega, by go_num, by rw [take_snoc_get HAT.out, ← HX.out, ← HNN.out]; exact hfs6, hb6⟩
            case measure => simp [intOf]; omega
        · obtain rfl : k = M.length := by omega
          go_wp2_with fail
          go_ret
          obtain ⟨hB3, hm3, hf3, hin3⟩ := HM.out
          refine ⟨_, rfl, ?_, hB3.trans (hb.mono hB3.size)⟩
          have e : (leftP (absD S) n K).length = M.length := by
            unfold leftP
            rw [← HMN.out.1]
            unfold mapN
            simp
          rw [← e, List.take_length] at hown
          exact hown.mono hB3.size
end Go.Proofs.YtheoklhmlnfgjaaGreatDoor
/-
  New: a disk that holds files.
-/
namespace Go.Proofs.YtheoklhmlnfgjaaGreatDoor
open Go.RowKit Go.Maps

theorem cloneI_any {w : World} {q : Option Addr} {Z : List Int} {m d : Nat} (hm : Z.length = m) (hl : m ≤ 17592186043904) (h : InV w q (Z.map (Value.int .i64))) :
    Calls Tryz.prog 65 #[.slice q m d] w fun e w' => ∃ v, e = .returned v ∧ w'.ownsRow w.heap.size 3 1 v Z.length (Z.map (Value.int .i64)) ∧ Below w.heap.size w w' := by
  subst hm
  cases q with
  | none =>
    have hz : Z = [] := by
      by_cases h0 : 0 < Z.length
      · obtain ⟨b, o, e, _⟩ := h (by simpa using h0); cases e
      · exact List.eq_nil_of_length_eq_zero (by omega)
    subst hz
    refine (Tryz.slices_Clone_int_nil _ d w).mono ?_
    rintro e w' ⟨rfl, rfl⟩
    exact ⟨_, rfl, World.ownsRow_nil _ _ _ _, Below.refl _ _⟩
  | some a =>
    cases Z with
    | nil =>
      refine (Tryz.slices_Clone_int_zero a d w).mono ?_
      rintro e w' ⟨v, rfl, h1, _, h2⟩
      exact ⟨_, rfl, h1, h2⟩
    | cons z r =>
      obtain ⟨b, o, e, hc⟩ := h (by simp)
      injection e with e
      subst e
      refine (Tryz.slices_Clone_int b o (z :: r).length d (z :: r) w (Nat.le_refl _) (by omega) (fun j hj => by
        rw [hc j (by simpa using hj), List.getElem_map, List.getD_eq_getElem?_getD, List.getElem?_eq_getElem hj]; rfl)).mono ?_
      rintro e w' ⟨v, rfl, h1, _, h2⟩
      rw [List.take_length] at h1
      exact ⟨_, rfl, h1, h2⟩

theorem lessN (a b : ByteArray) : Op.bytesLess a.toList b.toList = decide (a.data.toList < b.data.toList) := by
  rw [bytesLess_eq, Lib.toList_data, Lib.toList_data]
theorem rowKeep {w w' : World} {base e size n : Nat} {v : Value} {xs : List Value} (h : w.ownsRow base e size v n xs) (hk : ∀ g cur, v.ownBlock = some g → w.heap[g]? = some (.cells cur e (0, 0)) → w'.heap[g]? = w.heap[g]?) : w'.ownsRow base e size v n xs := by
  refine ⟨h.1, ?_⟩
  rcases h.2 with h0 | ⟨g, cap, cur, e, c1, c2, r⟩
  · exact .inl h0
  · exact .inr ⟨g, cap, cur, e, c1, (hk g cur (by rw [e]; rfl) c2).trans c2, r⟩
/-- the name ahead of number k -/
def lastN (F : List FT) : Nat → BS
  | 0 => []
  | k + 1 => (F[k]?.map (·.1)).getD []

set_option maxRecDepth 100000 in
set_option maxHeartbeats 4000000 in
theorem new_pS (F : List FT) (p : Option Addr) (n c : Nat) (hn : F.length = n) (room : Int) (Z : List Int) (q : Option Addr) (m d : Nat) (hm : Z.length = m) (power : Int) (w : World) (hF : InFs w p F) (hZ : InV w q (Z.map (Value.int .i64))) (hFl : F.length ≤ 4000000000000) (hFn : ∀ f ∈ F, f.1.length ≤ 140737488351232 ∧ f.2.length ≤ 140737488351232) (hZl : Z.length ≤ 4000000000000) :
    Calls Tryz.prog 28 #[.slice p n c, .int .i64 room, .slice q m d, .int .i64 power] w fun e w' =>
      (newE F room ≠ 0 ∧ e = .returned (.tuple #[.pointer none, .int .i64 (newE F room)]) ∨ newE F room = 0 ∧ ∃ dd P, e = .returned (.tuple #[.pointer (some ⟨dd, 0, none⟩), .int .i64 0]) ∧ (∃ S, DiskAt w' P dd S ∧ absD S = newP F room Z power ∧ ∀ a, S.fp = some a → w.heap.size ≤ a.block) ∧ ∀ g, P g → w.heap.size ≤ g) ∧ Below w.heap.size w w' := by
  subst hn
  subst hm
  by_cases hroom : room < 0 ∨ 1073741824 < room
  · have HE := Lib.hid (show newE F room = 131 by unfold newE; rw [if_pos hroom])
    by_cases h0 : room < 0
    · have h1 : decide (room < 0) = true := decide_eq_true h0
      clear hroom
      go_enter Tryz.func28, Tryz.ntmps28
      go_wp2_with fail
      go_ret2
      exact ⟨.inl ⟨by rw [HE.out]; decide, by rw [HE.out]; rfl⟩, Below.refl _ _⟩
    · have h1 : decide (room < 0) = false := decide_eq_false h0
      have h2 : decide (1073741824 < room) = true := decide_eq_true (by omega)
      clear hroom
      go_enter Tryz.func28, Tryz.ntmps28
      go_wp2_with fail
      go_ret2
      exact ⟨.inl ⟨by rw [HE.out]; decide, by rw [HE.out]; rfl⟩, Below.refl _ _⟩
  · have hmk : ∀ W : World, (Instr.makeMap 112 none).run Tryz.prog W = .ok (.map (some W.heap.size)) (W.alloc (.map #[] 0)) := fun _ => rfl
    have h1 : decide (room < 0) = false := decide_eq_false (by omega)
    have h2 : decide (1073741824 < room) = false := decide_eq_false (by omega)
    have HE0 := Lib.hid (show okF F → newE F room = 0 from fun h => by unfold newE; rw [if_neg hroom, if_pos h])
    have HE1 := Lib.hid (show ¬ okF F → newE F room = 95 from fun h => by unfold newE; rw [if_neg hroom, if_neg h])
    have hr0 : 0 ≤ room := by omega
    obtain ⟨wa, hwa⟩ : ∃ W0, W0 = w.alloc (.map #[] 0) := ⟨_, rfl⟩
    have hba : Below w.heap.size w wa := by rw [hwa]; exact (Below.refl _ w).alloc (Nat.le_refl _) _
    have hmade : OwnN wa w.heap.size [] := by rw [hwa]; exact OwnN.made w
    have hsz : wa.heap.size = w.heap.size + 1 := by rw [hwa]; simp
    have hcl := cloneI_any (d := d) rfl (by omega) (hZ.below hba)
    rw [hwa] at hcl
    have HWA := Lib.hid (And.intro hwa (And.intro hba (And.intro hmade hsz)))
    clear hwa hba hmade hsz hroom
    go_enter Tryz.func28, Tryz.ntmps28
    go_wp2_with fail
    refine hcl.mono ?_
    rw [← HWA.out.1]
    rintro e w1 ⟨fv, rfl, hrow, hb1⟩
    clear hcl
    obtain ⟨fp, fc, hfv, _, _, _, _⟩ := owns_shape hrow
    rw [hfv]
    obtain ⟨hwa, hba, hmade, hsz⟩ := HWA.out
    obtain ⟨w2, hw2⟩ : ∃ W0, W0 = w1.alloc (.cells #[.map (some w.heap.size), .map none, .slice none 0 0, .int .i64 0, .int .i64 room, .slice fp Z.length fc, .int .i64 power, .int .i64 0] 116) := ⟨_, rfl⟩
    have hb2 : Below w1.heap.size w1 w2 := by rw [hw2]; exact (Below.refl _ w1).alloc (Nat.le_refl _) _
    have hB2 : Below w.heap.size w w2 := hba.trans (hb1.trans (hb2.mono hb1.size) |>.mono (by omega))
    have hsz2 : w2.heap.size = w1.heap.size + 1 := by rw [hw2]; simp
    have hszl : w.heap.size < w1.heap.size := by have := hb1.size; omega
    have hrow2 : w2.ownsRow w.heap.size 3 1 fv Z.length (Z.map (Value.int .i64)) := ownsRow_below (ownsRow_mono hrow (by omega)) hb2
    have hmap2 : OwnN w2 w.heap.size [] := (hmade.below hb1).below hb2
    have hdd2 : w2.heap[w1.heap.size]? = some (.cells #[.map (some w.heap.size), .map none, .slice none 0 0, .int .i64 0, .int .i64 room, .slice fp Z.length fc, .int .i64 power, .int .i64 0] 116 (0, 0)) := by rw [hw2]; exact heap_alloc_new w1 _
    have hna : NewAt w2 F 0 w1.heap.size w.heap.size room fv power (fun g => w.heap.size ≤ g ∧ fv.ownBlock ≠ some g) [] := by
      refine ⟨by rw [hfv]; exact hdd2, by unfold zipN; simpa using hmap2, rfl, Nat.zero_le _, fun i f hf => by simp at hf, List.Pairwise.nil, ⟨fun f hf => by simp at hf, by simp⟩⟩
    have hflt : ∀ g, fv.ownBlock = some g → g < w1.heap.size := fun g hg => (World.ownsRow.lt hrow g hg).2
    have HW2 := Lib.hid hw2
    have HI := Lib.hid (And.intro hna (And.intro hrow2 (And.intro hB2 hflt)))
    have HFV := Lib.hid hfv
    have HSZ := Lib.hid (And.intro hsz2 hszl)
    clear hwa hba hmade hsz hb1 hb2 hsz2 hrow hrow2 hmap2 hdd2 hna hflt hw2 hfv hB2 hszl
    go_wp2_with fail
    rw [← HW2.out]
    go_loopw [11, 29] (fun lv i wr => ∃ (k : Nat) (G : List FileC) (lb : ByteArray), k ≤ F.length ∧ i = .int .i64 k ∧ lv = .string lb ∧ lb.data.toList = lastN F k ∧ NewAt wr F k w1.heap.size w.heap.size room fv power (fun g => w.heap.size ≤ g ∧ fv.ownBlock ≠ some g) G ∧ wr.ownsRow w.heap.size 3 1 fv Z.length (Z.map (Value.int .i64)) ∧ Below w.heap.size w wr ∧ w2.heap.size ≤ wr.heap.size) (fun _ i _ => F.length - (intOf i).toNat)
    case atStart =>
      obtain ⟨h1, h2, h3, _⟩ := HI.out
      exact ⟨0, [], ⟨#[]⟩, Nat.zero_le _, rfl, rfl, rfl, h1, h2, h3, Nat.le_refl _⟩
    case round =>
      obtain ⟨k, G, lb, hk, rfl, rfl, hlb, hna, hrow, hb, hsw⟩ := hrel
      have HK := Lib.hid (And.intro hna (And.intro hrow (And.intro hb hsw)))
      have HLB := Lib.hid hlb
      clear hlb hna hrow hsw
      by_cases hlt : k < F.length
      · obtain ⟨b, o, rfl, x, q0, c0, hcx, hcd, hx, hqc, hdl, hind⟩ := (hF.below hb).at hlt
        obtain ⟨l, hl⟩ : ∃ l, l = F[k].2 := ⟨_, rfl⟩
        rw [← hl] at hcd hdl hind
        have hbd := hFn F[k] (List.getElem_mem hlt)
        have hxs : x.size ≤ 140737488351232 := by rw [← size_list, hx]; exact hbd.1
        have hll : l.length ≤ 140737488351232 := by rw [hl]; exact hbd.2
        have HX := Lib.hid (And.intro hx hl)
        have HB := Lib.hid hb
        clear hx hl hbd hb
        obtain ⟨wf, hwf⟩ : ∃ W0, W0 = wr.alloc (.cells #[.string x, .slice q0 l.length c0] 89) := ⟨_, rfl⟩
        have hbf : Below wr.heap.size wr wf := by rw [hwf]; exact (Below.refl _ wr).alloc (Nat.le_refl _) _
        have hff : wf.heap[wr.heap.size]? = some (.cells #[.string x, .slice q0 l.length c0] 89 (0, 0)) := by rw [hwf]; exact heap_alloc_new wr _
        have hindf := hind.below hbf
        have cf0 : wf.cell? ⟨wr.heap.size, 0, none⟩ = some (.string x) := by rw [cell_of_row _ _ _ _ _ _ hff]; rfl
        have hgood := good_any x wf hxs
        rw [hwf] at hgood cf0
        have HWF := Lib.hid (And.intro hwf (And.intro hbf (And.intro hff hindf)))
        clear hwf hbf hff hind hindf
        obtain ⟨gd, hgd⟩ : ∃ gd, gd = goodN x.data.toList := ⟨_, rfl⟩
        rw [← hgd] at hgood
        have HGD := Lib.hid hgd
        clear hgd
        go_wp2_with fail
        refine hgood.mono ?_
        rw [← HWF.out.1]
        rintro e w3 ⟨rfl, hb3⟩
        clear hgood cf0
        cases gd with
        | false =>
          go_wp2_with fail
          go_ret2
          have hno : ¬ okF F := okF_bad (List.getElem?_eq_getElem hlt) (.inl (by unfold badN; rw [← HX.out.1, ← HGD.out]; rfl))
          exact ⟨.inl ⟨by rw [HE1.out hno]; decide, by rw [HE1.out hno]; rfl⟩, HB.out.trans ((HWF.out.2.1.trans (hb3.mono HWF.out.2.1.size)).mono HB.out.size)⟩
        | true =>
          have cf0 : w3.cell? ⟨wr.heap.size, 0, none⟩ = some (.string x) := by rw [cell_of_row _ _ _ _ _ _ ((hb3.block _ (lt_of_heap HWF.out.2.2.1)).trans HWF.out.2.2.1)]; rfl
          have cf1 : w3.cell? ⟨wr.heap.size, 1, none⟩ = some (.slice q0 l.length c0) := by rw [cell_of_row _ _ _ _ _ _ ((hb3.block _ (lt_of_heap HWF.out.2.2.1)).trans HWF.out.2.2.1)]; rfl
          by_cases hlast : lb.data.toList < x.data.toList
          · have q1 : Op.bytesLess x.toList lb.toList = false := by rw [lessN]; exact decide_eq_false (fun e => absurd (List.lt_trans hlast e) (List.lt_irrefl _))
            have q2 : (x.toList == lb.toList) = false := by rw [strs_eq]; exact decide_eq_false (fun e => by rw [e] at hlast; exact absurd hlast (List.lt_irrefl _))
            have HLAST := Lib.hid hlast
            have hb03 : Below wr.heap.size wr w3 := HWF.out.2.1.trans (hb3.mono HWF.out.2.1.size)
            have hna := HK.out.1
            have hdd3 := (hb03.block _ (lt_of_heap hna.blk)).trans hna.blk
            have cd0 : w3.cell? ⟨w1.heap.size, 0, none⟩ = some (.map (some w.heap.size)) := by rw [cell_of_row _ _ _ _ _ _ hdd3]; rfl
            have cd3 : w3.cell? ⟨w1.heap.size, 3, none⟩ = some (.int .i64 k) := by rw [cell_of_row _ _ _ _ _ _ hdd3]; rfl
            obtain ⟨S, hS⟩ : ∃ S : World → Prop, S = fun W => W.cell? ⟨w1.heap.size, 0, none⟩ = some (.map (some w.heap.size)) ∧ W.cell? ⟨w1.heap.size, 3, none⟩ = some (.int .i64 k) ∧ W.cell? ⟨wr.heap.size, 0, none⟩ = some (.string x) ∧ W.cell? ⟨wr.heap.size, 1, none⟩ = some (.slice q0 l.length c0) := ⟨_, rfl⟩
            have HSS := Lib.hid (fun W => show S W ↔ W.cell? ⟨w1.heap.size, 0, none⟩ = some (.map (some w.heap.size)) ∧ W.cell? ⟨w1.heap.size, 3, none⟩ = some (.int .i64 k) ∧ W.cell? ⟨wr.heap.size, 0, none⟩ = some (.string x) ∧ W.cell? ⟨wr.heap.size, 1, none⟩ = some (.slice q0 l.length c0) by rw [hS])
            have step : ∀ W W', S W → (∀ a : Addr, a.block = w1.heap.size ∨ a.block = wr.heap.size → W'.cell? a = W.cell? a) → S W' := by
              intro W W' h1 hb
              rw [hS] at h1 ⊢
              obtain ⟨h0, h1, h2, h3⟩ := h1
              exact ⟨(hb _ (.inl rfl)).trans h0, (hb _ (.inl rfl)).trans h1, (hb _ (.inr rfl)).trans h2, (hb _ (.inr rfl)).trans h3⟩
            have hS0 : S w3.drew := by
              rw [hS]
              exact ⟨cd0, cd3, cf0, cf1⟩
            have HK0 := Lib.hid hS0
            have hind3 : In8 w3 q0 l := HWF.out.2.2.2.below hb3
            have hlt1 := lt_of_heap hna.blk
            have hszr : wr.heap.size < w3.heap.size := by have := lt_of_heap HWF.out.2.2.1; have := hb3.size; omega
            have hbnlt := hna.now.lt
            have hbnd := map_ne hna.now hna.blk
            have HCL := Lib.hid (show Calls Tryz.prog 67 #[.slice q0 l.length c0] w3.drew fun e w' => ∃ qv cv, e = .returned (.slice qv l.length cv) ∧ Own8 w' w3.heap.size (.slice qv l.length cv) l ∧ Below w3.heap.size w3 w' ∧ S w' ∧ ∃ w5, (Instr.mapUpdate 112 (.map (some w.heap.size)) (.string x) (.pointer (some ⟨w'.heap.size, 0, none⟩))).run Tryz.prog (w'.alloc (.cells #[.int .i64 k, .slice qv l.length cv, .int .i64 l.length] 119)) = .ok () w5 ∧ OwnN w5 w.heap.size (insN x.data.toList w'.heap.size (zipN (F.take k) G)) ∧ (w'.alloc (.cells #[.int .i64 k, .slice qv l.length cv, .int .i64 l.length] 119)).grownBy w5 (some w.heap.size) ∧ S w5 ∧ S (w'.alloc (.cells #[.int .i64 k, .slice qv l.length cv, .int .i64 l.length] 119)) from
              (cloneB_any l q0 _ c0 rfl (by omega) hqc w3.drew (hind3.below ((Below.refl _ w3).drew))).mono fun _ w' ⟨v, h1, h2, h3⟩ => by
                obtain ⟨qv, cv, rfl, _, _, _⟩ := h2.in8n rfl
                have hb4 : Below w3.heap.size w3 w' := ((Below.refl _ w3).drew).trans h3
                have hSw : S w' := step _ _ hS0 (fun a ha => h3.cell (by show a.block < w3.heap.size; have := hb03.size; rcases ha with e | e <;> omega))
                obtain ⟨w5, r1, r2, r3, _⟩ := run_putF ((hna.now.below hb03).below (hb4.alloc hb4.size (.cells #[.int .i64 k, .slice qv l.length cv, .int .i64 l.length] 119))) x w'.heap.size (by unfold maxLen; omega) (by unfold zipN maxLen; rw [List.length_zipWith, List.length_take]; omega)
                refine ⟨qv, cv, h1, h2, hb4, hSw, w5, r1, r2, r3, step _ _ hSw fun a ha => ?_, step _ _ hSw fun a ha => Below.cell ((Below.refl w'.heap.size w').alloc (Nat.le_refl _) _) (by show a.block < w'.heap.size; have := hb03.size; have := hb4.size; rcases ha with e | e <;> omega)⟩
                have e1 : a.block < w'.heap.size := by have := hb03.size; have := hb4.size; rcases ha with e | e <;> omega
                have e2 := r3.block a.block (by simp; omega) (fun e => by injection e with e; rcases ha with e' | e' <;> omega)
                have e3 := heap_alloc_old w' (.cells #[.int .i64 k, .slice qv l.length cv, .int .i64 l.length] 119) e1
                simp only [World.cell?, e2, e3])
            have HNA := Lib.hid hna
            have HB03 := Lib.hid hb03
            clear step hS hS0 hind3 hdd3 hlast cd0 cd3 hna hb03 hlt1 hszr hbnlt hbnd
            go_wp2_with fail
            go_region_held3 (fun W => W.cell? ⟨w1.heap.size, 0, none⟩ = some (.map (some w.heap.size)) ∧ W.cell? ⟨w1.heap.size, 3, none⟩ = some (.int .i64 k) ∧ W.cell? ⟨wr.heap.size, 0, none⟩ = some (.string x) ∧ W.cell? ⟨wr.heap.size, 1, none⟩ = some (.slice q0 l.length c0))
              (first | (with_reducible exact (HSS.out _).1 HK0.out) | (with_reducible exact (HSS.out _).1 HK1.out) | (with_reducible exact (HSS.out _).1 HK2.out) | (with_reducible exact (HSS.out _).1 HK3.out))
              (first
                | (go_at_call 67; with_reducible refine HCL.out.mono ?_; rintro e w4 ⟨qv, cv, rfl, hown, hb4, hk1, w5, hr5, hm5, hg5, hk2, hk3⟩; have HOW := Lib.hid (And.intro hown (And.intro hb4 (And.intro hm5 hg5))); have HK1 := Lib.hid hk1; have HK2 := Lib.hid hk2; have HK3 := Lib.hid hk3; clear hk1 hk2 hk3 hown hb4 hm5 hg5))
            all_goals
              obtain ⟨hown, hb4, hm5, hg5⟩ := HOW.out
              have hna := HNA.out
              have hb03 := HB03.out
              have hbW : Below wr.heap.size wr (w4.alloc (.cells #[.int .i64 k, .slice qv l.length cv, .int .i64 l.length] 119)) := (hb03.trans (hb4.mono hb03.size)).alloc (by have := hb03.size; have := hb4.size; omega) _
              have hbnd := map_ne hna.now hna.blk
              have hdd5 := ((hg5.block _ (Nat.lt_of_lt_of_le (lt_of_heap hna.blk) hbW.size) (fun e => by injection e with e; exact hbnd e.symm)).trans (hbW.block _ (lt_of_heap hna.blk))).trans hna.blk
              have f5 := frozen_of_row w5 w1.heap.size 3 _ _ hdd5
              have c53 : w5.cell? ⟨w1.heap.size, 3, none⟩ = some (.int .i64 k) := by rw [cell_of_row _ _ _ _ _ _ hdd5]; rfl
              have HG := Lib.hid (And.intro hbW (And.intro hbnd (And.intro hb03 hg5)))
              clear hown hb4 hm5 hg5 hna hb03 hbW hbnd hdd5
              go_wp2_with fail
              obtain ⟨hown, hb4, hm5, _⟩ := HOW.out
              obtain ⟨hbW, hbnd, hb03, hg5⟩ := HG.out
              have hna := HNA.out
              obtain ⟨_, hrow, hb, hsw⟩ := HK.out
              obtain ⟨hx, hl⟩ := HX.out
              obtain ⟨w6, hw6⟩ : ∃ W0, W0 = w5.setCell ⟨w1.heap.size, 3, none⟩ (.int .i64 ((k : Int) + 1)) := ⟨_, rfl⟩
              have hxk : F[k]? = some F[k] := List.getElem?_eq_getElem hlt
              obtain ⟨hok, hall⟩ := okF_snoc hxk hna.ok (by rw [← hx]; unfold badN; rw [← HGD.out]; rfl) (fun y h0 hy => by
                have hl2 := HLAST.out
                rw [HLB.out, hx] at hl2
                cases k with
                | zero => omega
                | succ k' =>
                  have e : lastN F (k' + 1) = y.1 := by
                    show ((F[k']?).map (·.1)).getD [] = _
                    have : F[k']? = some y := hy
                    rw [this]; rfl
                  rw [e] at hl2
                  exact hl2)
              have hP : ∀ g, wr.heap.size ≤ g → w.heap.size ≤ g ∧ fv.ownBlock ≠ some g := fun g hg => ⟨Nat.le_trans hb.size hg, fun e => by
                have h1 := HI.out.2.2.2 g e
                have h2 := HSZ.out.1
                omega⟩
              rw [hx] at hm5
              rw [hl] at hown
              have hst := hna.step hxk hbW (g0 := w4.heap.size) (by have := hb03.size; have := hb4.size; omega) (by rw [← hl]; exact heap_alloc_new w4 _) ((hown.mono hb03.size).alloc _) hg5 hm5 hw6 hP hok hall
              have keep6 : ∀ g, g < wr.heap.size → g ≠ w.heap.size → g ≠ w1.heap.size → w6.heap[g]? = wr.heap[g]? := fun g h1 h2 h3 => by
                rw [hw6]
                exact ((Below.heap_setCell _ _ _ _ h3).trans (hg5.block g (Nat.lt_of_lt_of_le h1 hbW.size) (fun e => h2 (by injection e)))).trans (hbW.block g h1)
              have hsz6 : wr.heap.size ≤ w6.heap.size := by have h1 := hg5.size; have h2 := hbW.size; rw [hw6]; simp only [World.setCell]; simp only [Array.size_modify]; omega
              have hrow6 := rowKeep (w' := w6) hrow (fun g cur _ hc => keep6 g (lt_of_heap hc) (fun e => map_ne hna.now hc e.symm) (blk_ne hc hna.blk (by decide)))
              have hszl := HSZ.out.2
              have hb6 : Below w.heap.size w w6 := by
                refine ⟨?_, ?_, ?_, Nat.le_trans hb.size hsz6, fun g hg => ?_⟩
                · rw [hw6]; exact hg5.os.trans (hbW.os.trans hb.os)
                · rw [hw6]; exact hg5.tape.trans (hbW.tape.trans hb.tape)
                · rw [hw6]; exact hg5.output.trans (hbW.output.trans hb.output)
                · exact (keep6 g (Nat.lt_of_lt_of_le hg hb.size) (by omega) (by omega)).trans (hb.block g hg)
              rw [← hw6]
              go_roundw
              case rel => exact ⟨k + 1, _, x, by omega, by go_num, rfl, by rw [hx]; show _ = ((F[k]?).map (·.1)).getD []; rw [hxk]; rfl, hst, hrow6, hb6, Nat.le_trans hsw hsz6⟩
              case measure => simp [intOf]; omega
          · have HLAST := Lib.hid hlast
            by_cases heq : x.data.toList = lb.data.toList
            · have q2 : (x.toList == lb.toList) = true := by rw [strs_eq]; exact decide_eq_true heq
              have q3 : (Op.bytesLess x.toList lb.toList || true) = true := Bool.or_true _
              clear heq hlast
              go_wp2_with fail
              go_ret2
              have hno : ¬ okF F := by
                have hxk : F[k]? = some F[k] := List.getElem?_eq_getElem hlt
                have hn := HLAST.out
                rw [HLB.out, HX.out.1] at hn
                cases k with
                | zero =>
                  exfalso
                  have e : F[0].1 = [] := by
                    cases hc : F[0].1 with
                    | nil => rfl
                    | cons y r => rw [hc] at hn; exact absurd (List.nil_lt_cons y r) hn
                  have := HGD.out
                  rw [HX.out.1, e] at this
                  exact absurd this (by decide)
                | succ k' =>
                  refine okF_bad hxk (.inr ⟨F[k'], by omega, List.getElem?_eq_getElem (by omega), ?_⟩)
                  have e : lastN F (k' + 1) = F[k'].1 := by
                    show ((F[k']?).map (·.1)).getD [] = _
                    rw [List.getElem?_eq_getElem (by omega)]; rfl
                  rw [e] at hn
                  exact hn
              exact ⟨.inl ⟨by rw [HE1.out hno]; decide, by rw [HE1.out hno]; rfl⟩, HB.out.trans ((HWF.out.2.1.trans (hb3.mono HWF.out.2.1.size)).mono HB.out.size)⟩
            · have q1 : Op.bytesLess x.toList lb.toList = true := by rw [lessN]; exact decide_eq_true (lt_of_le_ne (List.not_lt.1 hlast) (fun e => heq e.symm))
              clear heq hlast
              go_wp2_with fail
              go_ret2
              have hno : ¬ okF F := by
                have hxk : F[k]? = some F[k] := List.getElem?_eq_getElem hlt
                have hn := HLAST.out
                rw [HLB.out, HX.out.1] at hn
                cases k with
                | zero =>
                  exfalso
                  have e : F[0].1 = [] := by
                    cases hc : F[0].1 with
                    | nil => rfl
                    | cons y r => rw [hc] at hn; exact absurd (List.nil_lt_cons y r) hn
                  have := HGD.out
                  rw [HX.out.1, e] at this
                  exact absurd this (by decide)
                | succ k' =>
                  refine okF_bad hxk (.inr ⟨F[k'], by omega, List.getElem?_eq_getElem (by omega), ?_⟩)
                  have e : lastN F (k' + 1) = F[k'].1 := by
                    show ((F[k']?).map (·.1)).getD [] = _
                    rw [List.getElem?_eq_getElem (by omega)]; rfl
                  rw [e] at hn
                  exact hn
              exact ⟨.inl ⟨by rw [HE1.out hno]; decide, by rw [HE1.out hno]; rfl⟩, HB.out.trans ((HWF.out.2.1.trans (hb3.mono HWF.out.2.1.size)).mono HB.out.size)⟩
      · obtain rfl : k = F.length := by omega
        obtain ⟨hna, hrow, hb, hsw⟩ := HK.out
        have hnow := hna.now
        rw [List.take_length] at hnow
        have c0 : wr.cell? ⟨w1.heap.size, 0, none⟩ = some (.map (some w.heap.size)) := by rw [cell_of_row _ _ _ _ _ _ hna.blk]; rfl
        have hcl := cloneF_any hnow
        clear hna hrow hb hsw hnow
        go_wp2_with fail
        refine hcl.mono ?_
        rintro e w3 ⟨rfl, hm3, hb3⟩
        clear hcl
        have hdd3 := (hb3.block _ (lt_of_heap HK.out.1.blk)).trans HK.out.1.blk
        have f3 := frozen_of_row w3 w1.heap.size 1 _ _ hdd3
        have c1 : w3.cell? ⟨w1.heap.size, 1, none⟩ = some (.map none) := by rw [cell_of_row _ _ _ _ _ _ hdd3]; rfl
        have HM := Lib.hid (And.intro hm3 (And.intro hb3 hdd3))
        clear hm3 hb3 hdd3
        go_wp2_with fail
        go_ret2
        obtain ⟨hna, hrow, hb, hsw⟩ := HK.out
        obtain ⟨hm3, hb3, _⟩ := HM.out
        have hok : okF F := by have := hna.ok; rwa [List.take_length] at this
        have hszl := HSZ.out.2
        obtain ⟨w4, hw4⟩ : ∃ W0, W0 = w3.setCell ⟨w1.heap.size, 1, none⟩ (.map (some wr.heap.size)) := ⟨_, rfl⟩
        have hdone := hna.done HFV.out hrow hb3 rfl hm3 hw4 hr0 ⟨by omega, Nat.le_refl _⟩ hb.size
        rw [← hw4]
        refine ⟨.inr ⟨HE0.out hok, _, _, rfl, hdone, fun g hg => hg.1⟩, ?_⟩
        refine ⟨?_, ?_, ?_, ?_, fun g hg => ?_⟩
        · rw [hw4]; exact hb3.os.trans hb.os
        · rw [hw4]; exact hb3.tape.trans hb.tape
        · rw [hw4]; exact hb3.output.trans hb.output
        · rw [hw4]; have := hb3.size; have := hb.size; simp only [World.setCell]; simp only [Array.size_modify]; omega
        · have hne : g ≠ w1.heap.size := by omega
          rw [hw4]
          exact ((Below.heap_setCell _ _ _ _ hne).trans (hb3.block g (Nat.lt_of_lt_of_le hg hb.size))).trans (hb.block g hg)
theorem new_p (F : List FT) (p : Option Addr) (n c : Nat) (hn : F.length = n) (room : Int) (Z : List Int) (q : Option Addr) (m d : Nat) (hm : Z.length = m) (power : Int) (w : World) (hF : InFs w p F) (hZ : InV w q (Z.map (Value.int .i64))) (hFl : F.length ≤ 4000000000000) (hFn : ∀ f ∈ F, f.1.length ≤ 140737488351232 ∧ f.2.length ≤ 140737488351232) (hZl : Z.length ≤ 4000000000000) :
    Calls Tryz.prog 28 #[.slice p n c, .int .i64 room, .slice q m d, .int .i64 power] w fun e w' =>
      (newE F room ≠ 0 ∧ e = .returned (.tuple #[.pointer none, .int .i64 (newE F room)]) ∨ newE F room = 0 ∧ ∃ dd P, e = .returned (.tuple #[.pointer (some ⟨dd, 0, none⟩), .int .i64 0]) ∧ DiskP w' P dd (newP F room Z power) ∧ ∀ g, P g → w.heap.size ≤ g) ∧ Below w.heap.size w w' := by
  refine (new_pS F p n c hn room Z q m d hm power w hF hZ hFl hFn hZl).mono ?_
  rintro e w' ⟨h1 | ⟨h1, dd, P, h2, ⟨S, h3, h4, _⟩, h5⟩, hb⟩
  · exact ⟨.inl h1, hb⟩
  · exact ⟨.inr ⟨h1, dd, P, h2, ⟨S, h3, h4⟩, h5⟩, hb⟩
end Go.Proofs.YtheoklhmlnfgjaaGreatDoor
/-
  The steps of a script: do, step, cut; copies of numbers and fates.
-/
namespace Go.Proofs.YtheoklhmlnfgjaaGreatDoor
open Go.RowKit Go.Maps

/-- the step that an op means -/
def opOf (wh : Int) (a b d : BS) : Opp := if wh = 1 then .create a else if wh = 2 then .append a d else if wh = 3 then .sync a else if wh = 4 then .names else if wh = 5 then .rename a b else .remove a
theorem StepPost.from {w wa : World} {P : Nat → Prop} {dd : Nat} {A : Pl} {o : Opp} {e : Ending} {w' : World} (hb : Below w.heap.size w wa) (h : StepPost wa P dd A o e w') : StepPost w P dd A o e w' := by
  obtain ⟨h1, ⟨P', h2, h3⟩, h4⟩ := h
  exact ⟨h1, ⟨P', h2, fun g hg => (h3 g hg).imp id (fun e => Nat.le_trans hb.size e)⟩, ⟨h4.os.trans hb.os, h4.tape.trans hb.tape, h4.output.trans hb.output, Nat.le_trans hb.size h4.size, fun k hk hnk => (h4.block k (Nat.lt_of_lt_of_le hk hb.size) hnk).trans (hb.block k hk)⟩⟩
theorem DiskP.below {w w' : World} {P : Nat → Prop} {dd : Nat} {A : Pl} (h : DiskP w P dd A) (hb : Below w.heap.size w w') : DiskP w' P dd A := by
  obtain ⟨S, h, e⟩ := h
  exact ⟨S, h.below hb, e⟩

theorem DiskAt.shrink {w : World} {P : Nat → Prop} {dd : Nat} {S : DiskC} (h : DiskAt w P dd S) : DiskAt w (fun g => P g ∧ g < w.heap.size) dd S where
  blk := h.blk
  now := h.now
  safe := h.safe
  ne := h.ne
  row := h.row
  chg := h.chg
  fails := ⟨h.fails.1, h.fails.2.1, fun a ha h0 hP => h.fails.2.2 a ha h0 hP.1⟩
  files := fun i f hf => by
    obtain ⟨h1, h2, h3, h4, h5⟩ := h.files i f hf
    exact ⟨h1, h2, fun r hr => ⟨h3 r hr, (World.ownsRow.lt h2 r hr).2⟩, ⟨h4, lt_of_heap h1⟩, h5⟩
  apart := h.apart
  nowF := h.nowF
  safeF := h.safeF
  inP := ⟨⟨h.inP.1, lt_of_heap h.blk⟩, ⟨h.inP.2.1, h.now.lt⟩, ⟨h.inP.2.2.1, h.safe.lt⟩, fun r hr => ⟨h.inP.2.2.2 r hr, (World.ownsRow.lt h.row r hr).2⟩⟩
theorem DiskP.shrink {w : World} {P : Nat → Prop} {dd : Nat} {A : Pl} (h : DiskP w P dd A) : DiskP w (fun g => P g ∧ g < w.heap.size) dd A := by
  obtain ⟨S, h, e⟩ := h
  exact ⟨S, h.shrink, e⟩
theorem StepPost.weak {w : World} {P Q : Nat → Prop} (hPQ : ∀ g, P g → Q g) {dd : Nat} {A : Pl} {o : Opp} {e : Ending} {w' : World} (h : StepPost w P dd A o e w') : StepPost w Q dd A o e w' := by
  obtain ⟨h1, ⟨P', h2, h3⟩, h4⟩ := h
  exact ⟨h1, ⟨P', h2, fun g hg => (h3 g hg).imp (hPQ g) id⟩, ⟨h4.os, h4.tape, h4.output, h4.size, fun k hk hnk => h4.block k hk (fun e => hnk (hPQ k e))⟩⟩

end Go.Proofs.YtheoklhmlnfgjaaGreatDoor
/-
  copyInts, CopyFate, step, cut.
-/
namespace Go.Proofs.YtheoklhmlnfgjaaGreatDoor
open Go.RowKit Go.Maps

theorem infoI : (Tryz.prog.info? 3).map (fun i => (i.zero, i.size, i.bytes)) = some (some (.int .i64 0), 1, 8) := by kernel_rfl
theorem ints_one (Z : List Int) : ∀ u ∈ Z.map (Value.int .i64), u.oneCell' = true := by
  intro u hu
  obtain ⟨z, _, rfl⟩ := List.mem_map.1 hu
  rfl
theorem ownI_made (w : World) : (w.alloc (.cells #[] 3)).ownsRow w.heap.size 3 1 (.slice (some ⟨w.heap.size, 0, none⟩) 0 0) 0 [] :=
  ⟨rfl, .inr ⟨w.heap.size, 0, #[], rfl, Nat.le_refl _, heap_alloc_new w _, by simp, by unfold maxLen; omega, rfl, rfl⟩⟩
set_option maxRecDepth 100000 in
set_option maxHeartbeats 2000000 in
theorem copyFate_any (n : Int) (K : List Int) (q : Option Addr) (m d : Nat) (hm : K.length = m) (hl : m ≤ 17592186043904) (w : World) (h : InV w q (K.map (Value.int .i64))) :
    Calls Tryz.prog 30 #[.agg #[.int .i64 n, .slice q m d]] w fun e w' => ∃ p c, e = .returned (.agg #[.int .i64 n, .slice p K.length c]) ∧ InV w' p (K.map (Value.int .i64)) ∧ (∀ a, p = some a → w.heap.size ≤ a.block) ∧ Below w.heap.size w w' := by
  subst hm
  obtain ⟨wc, hwc⟩ : ∃ W0, W0 = ((w.alloc (.cells #[.int .i64 n, .slice q K.length d] 43)).alloc (.cells #[.int .i64 0, .slice none 0 0] 43)).alloc (.cells #[.int .i64 n, .slice none 0 0] 43) := ⟨_, rfl⟩
  have hbc : Below w.heap.size w wc := by rw [hwc]; exact (((Below.refl _ w).alloc (Nat.le_refl _) _).alloc (by simp) _).alloc (by simp; omega) _
  have hsc : wc.heap.size = w.heap.size + 3 := by rw [hwc]; simp
  have b0 : wc.heap[w.heap.size]? = some (.cells #[.int .i64 n, .slice q K.length d] 43 (0, 0)) := by
    rw [hwc]
    exact (heap_alloc_old _ _ (by simp; omega)).trans ((heap_alloc_old _ _ (by simp)).trans (heap_alloc_new w _))
  have b1 : wc.heap[w.heap.size + 1]? = some (.cells #[.int .i64 0, .slice none 0 0] 43 (0, 0)) := by
    rw [hwc]
    have := heap_alloc_new (w.alloc (.cells #[.int .i64 n, .slice q K.length d] 43)) (.cells #[.int .i64 0, .slice none 0 0] 43)
    rw [World.size_alloc] at this
    exact (heap_alloc_old _ _ (by simp)).trans this
  have b2 : wc.heap[w.heap.size + 2]? = some (.cells #[.int .i64 n, .slice none 0 0] 43 (0, 0)) := by
    rw [hwc]
    have := heap_alloc_new ((w.alloc (.cells #[.int .i64 n, .slice q K.length d] 43)).alloc (.cells #[.int .i64 0, .slice none 0 0] 43)) (.cells #[.int .i64 n, .slice none 0 0] 43)
    rw [World.size_alloc, World.size_alloc] at this
    exact this
  have hs := srcV (c := d) (e := 3) Tryz.underlying38 (h.below hbc) (ints_one K)
  rw [List.length_map] at hs
  have hnil := World.ownsRow_nil wc w.heap.size 3 1
  have HC := Lib.hid (And.intro hbc (And.intro b0 (And.intro b1 (And.intro b2 (And.intro hwc hsc)))))
  rw [hwc] at hs hnil
  clear hbc hsc b0 b1 b2 hwc
  go_enter Tryz.func30, Tryz.ntmps30
  go_wp2_with (
    at_builtin
    refine wpList_append_way _ rfl _ _ 38 38 rfl w.heap.size 3 (.int .i64 0) 1 8 Tryz.underlying38 infoI rfl _ 0 [] rfl hnil _ K.length (K.map (Value.int .i64)) rfl hs (by unfold maxLen; omega) (by omega) (by simp; omega) ?_
    intro v1 w1 hown1 hgrow1 _
    rw [← HC.out.2.2.2.2.1] at hgrow1
    rw [List.nil_append, Nat.zero_add] at hown1
    obtain ⟨hbc, b0, b1, b2, hwc, hsc⟩ := HC.out
    have g1 := (hgrow1.block (w.heap.size + 1) (by omega) (fun e => by cases e)).trans b1
    have g2 := (hgrow1.block (w.heap.size + 2) (by omega) (fun e => by cases e)).trans b2
    have e20 : w1.cell? ⟨w.heap.size + 2, 0, none⟩ = some (.int .i64 n) := by rw [cell_of_row _ _ _ _ _ _ g2]; rfl
    have e21 : w1.cell? ⟨w.heap.size + 2, 1, none⟩ = some (.slice none 0 0) := by rw [cell_of_row _ _ _ _ _ _ g2]; rfl
    have e10 : w1.cell? ⟨w.heap.size + 1, 0, none⟩ = some (.int .i64 0) := by rw [cell_of_row _ _ _ _ _ _ g1]; rfl
    have e11 : w1.cell? ⟨w.heap.size + 1, 1, none⟩ = some (.slice none 0 0) := by rw [cell_of_row _ _ _ _ _ _ g1]; rfl
    have f2 := fun i => frozen_of_row w1 (w.heap.size + 2) i _ _ g2
    have f1 := fun i => frozen_of_row w1 (w.heap.size + 1) i _ _ g1
    have HG := Lib.hid (And.intro hgrow1 hown1)
    obtain ⟨p1, c1, rfl, _, _, _, _⟩ := owns_shape hown1
    clear hgrow1 hown1 hbc b0 b1 b2 hwc hsc g1 g2)
  obtain ⟨hgrow1, hown1⟩ := HG.out
  obtain ⟨hbc, _, _, _, hwc, hsc⟩ := HC.out
  have hb1 : Below w.heap.size w w1 := hbc.grown hgrow1 hbc.size (fun k e => by cases e)
  have hlt := World.ownsRow.lt hown1
  obtain ⟨p2, c2, e, _, _, hin, hp⟩ := owns_shape hown1
  injection e with e _ _
  subst e
  have hI : ∀ (W : World), (∀ g, g ≠ w.heap.size + 1 → g ≠ w.heap.size + 2 → W.heap[g]? = w1.heap[g]?) → InV W p1 (K.map (Value.int .i64)) := fun W hW h0 => by
    obtain ⟨b, o, e, hc⟩ := hin h0
    have hob := (hp ⟨b, o, none⟩ e)
    have hbn : b ≠ w.heap.size + 1 ∧ b ≠ w.heap.size + 2 := by
      subst e
      obtain ⟨cur, hcur⟩ := rowBlk hown1 (g := b) rfl
      exact ⟨blk_ne hcur ((hgrow1.block (w.heap.size + 1) (by omega) (fun e => by cases e)).trans (by assumption)) (by decide), blk_ne hcur ((hgrow1.block (w.heap.size + 2) (by omega) (fun e => by cases e)).trans (by assumption)) (by decide)⟩
    refine ⟨b, o, e, fun i hi => ?_⟩
    have := hc i hi
    simp only [World.cell?, hW b hbn.1 hbn.2]
    exact this
  refine bodyPost_ret (v := .agg #[.int .i64 n, .slice p1 K.length c1]) (by simp [results, Tryz.results30, go_sem, e10, e11]) rfl ⟨_, _, rfl, ?_, fun a ha => (hp a ha).1, ?_⟩
  · refine hI _ fun g h1 h2 => ?_
    exact ((Below.heap_setCell _ _ _ _ h1).trans (Below.heap_setCell _ _ _ _ h1)).trans (Below.heap_setCell _ _ _ _ h2)
  · exact ((hb1.setCell (p := ⟨w.heap.size + 2, 1, none⟩) (by simp) _).setCell (p := ⟨w.heap.size + 1, 0, none⟩) (by simp) _).setCell (p := ⟨w.heap.size + 1, 1, none⟩) (by simp) _

/-- the op as it is meant -/
def stepI (wh : Int) : Int := if wh < 1 ∨ 6 < wh then 6 else wh
theorem opOf_step (wh : Int) (a b d : BS) : opOf (stepI wh) a b d = opOf wh a b d := by
  unfold stepI
  split
  · rename_i h
    unfold opOf
    have h1 : ¬ wh = 1 := by omega
    have h2 : ¬ wh = 2 := by omega
    have h3 : ¬ wh = 3 := by omega
    have h4 : ¬ wh = 4 := by omega
    have h5 : ¬ wh = 5 := by omega
    rw [if_neg h1, if_neg h2, if_neg h3, if_neg h4, if_neg h5]
    rfl
  · rfl
end Go.Proofs.YtheoklhmlnfgjaaGreatDoor
/-
  begin: a disk of copies.
-/
namespace Go.Proofs.YtheoklhmlnfgjaaGreatDoor
open Go.RowKit Go.Maps

def NewPost (w : World) (F : List FT) (room : Int) (Z : List Int) (power : Int) : Ending → World → Prop := fun e w' =>
  (newE F room ≠ 0 ∧ e = .returned (.tuple #[.pointer none, .int .i64 (newE F room)]) ∨ newE F room = 0 ∧ ∃ dd P, e = .returned (.tuple #[.pointer (some ⟨dd, 0, none⟩), .int .i64 0]) ∧ DiskP w' P dd (newP F room Z power) ∧ ∀ g, P g → w.heap.size ≤ g) ∧ Below w.heap.size w w'
theorem NewPost.from {w wa : World} {F : List FT} {room : Int} {Z : List Int} {power : Int} {e : Ending} {w' : World} (hb : Below w.heap.size w wa) (h : NewPost wa F room Z power e w') : NewPost w F room Z power e w' := by
  obtain ⟨h1, h2⟩ := h
  refine ⟨?_, hb.trans (h2.mono hb.size)⟩
  rcases h1 with h1 | ⟨h3, dd, P, h4, h5, h6⟩
  · exact .inl h1
  · exact .inr ⟨h3, dd, P, h4, h5, fun g hg => Nat.le_trans hb.size (h6 g hg)⟩

end Go.Proofs.YtheoklhmlnfgjaaGreatDoor
/-
  alive, of chapter 09: calls whose answers the document fixes.
-/
namespace Go.Proofs.YtheoklhmlnfgjaaGreatDoor
open Go.RowKit Go.Maps

/-- a disk that lies at or behind B, all below B as it was in w0 -/
def DP (w0 : World) (dd : Nat) (A : Pl) (W : World) : Prop := ∃ P, DiskP W P dd A ∧ (∀ g, P g → w0.heap.size ≤ g) ∧ Below w0.heap.size w0 W
theorem DP.step {w0 W w' : World} {dd : Nat} {A : Pl} {P : Nat → Prop} {o : Opp} {e : Ending} (hb : Below w0.heap.size w0 W) (hP : ∀ g, P g → w0.heap.size ≤ g) (h : StepPost W P dd A o e w') : DP w0 dd (doP A o).1 w' := by
  obtain ⟨_, ⟨P', h2, h3⟩, h4⟩ := h
  refine ⟨P', h2, fun g hg => ?_, ?_⟩
  · rcases h3 g hg with h | h
    · exact hP g h
    · exact Nat.le_trans hb.size h
  · exact ⟨h4.os.trans hb.os, h4.tape.trans hb.tape, h4.output.trans hb.output, Nat.le_trans hb.size h4.size, fun k hk => (h4.block k (Nat.lt_of_lt_of_le hk hb.size) (fun e => by have := hP k e; omega)).trans (hb.block k hk)⟩
theorem DP.below {w0 W w' : World} {dd : Nat} {A : Pl} (h : DP w0 dd A W) (hb : Below W.heap.size W w') : DP w0 dd A w' := by
  obtain ⟨P, h1, h2, h3⟩ := h
  exact ⟨P, h1.below hb, h2, h3.trans (hb.mono h3.size)⟩
def al0 : Pl := newP [] 9 [3] 4
def al1 : Pl := ⟨[([97], 0)], [], [.put [97] 0], [([], 0)], 9, [3], 4, 1⟩
def al2 : Pl := ⟨[([97], 0)], [], [.put [97] 0], [([120, 121], 0)], 9, [3], 4, 2⟩
def al3 : Pl := ⟨[([97], 0)], [], [.put [97] 0], [([120, 121], 0)], 9, [3], 4, 3⟩
def al4 : Pl := ⟨[([97], 0)], [([97], 0)], [], [([120, 121], 0)], 9, [3], 4, 4⟩
theorem al_1 : doP al0 (.create [97]) = (al1, 0) := by kernel_rfl
theorem al_2 : doP al1 (.append [97] [120, 121]) = (al2, 0) := by kernel_rfl
theorem al_3 : doP al2 (.sync [97]) = (al3, 94) := by kernel_rfl
theorem al_4 : doP al3 .names = (al4, 0) := by kernel_rfl
theorem al_5 : doP al4 (.sync [97]) = (al4, 93) := by kernel_rfl
theorem al_6 : downP al4 = true := by kernel_rfl
theorem al_7 : leftP al4 0 [] = [([97], [])] := by kernel_rfl
theorem al_f0 : FitP al0 := ⟨by decide, by decide, by decide, by decide, by decide, by decide, by decide, by decide⟩
theorem al_f1 : FitP al1 := ⟨by decide, by decide, by decide, by decide, by decide, by decide, by decide, by decide⟩
theorem al_f2 : FitP al2 := ⟨by decide, by decide, by decide, by decide, by decide, by decide, by decide, by decide⟩
theorem al_f3 : FitP al3 := ⟨by decide, by decide, by decide, by decide, by decide, by decide, by decide, by decide⟩
theorem al_f4 : FitP al4 := ⟨by decide, by decide, by decide, by decide, by decide, by decide, by decide, by decide⟩
theorem al_i4 : Inv al4 := by
  have n1 : ∀ x ∈ ([([97], 0)] : NM), x = ([97], 0) := fun x hx => List.mem_singleton.1 hx
  have g1 : badN [97] = false := by kernel_rfl
  refine ⟨List.pairwise_singleton _ _, List.pairwise_singleton _ _, rfl, fun x hx => ?_, fun x hx => ?_, (fun c hc => by cases hc), fun x hx => ?_, by decide, fun x hx => ?_⟩
  · rw [n1 x hx]; exact g1
  · rw [n1 x hx]; exact g1
  · rw [n1 x hx]; decide
  · have hx : x ∈ ([([120, 121], 0)] : List (BS × Nat)) := hx
    rw [List.mem_singleton.1 hx]; decide
theorem al_new : newE [] 9 = 0 := by
  unfold newE
  rw [if_neg (by omega), if_pos ⟨(fun f hf => by cases hf), List.Pairwise.nil⟩]

end Go.Proofs.YtheoklhmlnfgjaaGreatDoor
/-
  What every disk of a script keeps; the steps of a script, Left, in the words of the laws.
-/
namespace Go.Proofs.YtheoklhmlnfgjaaGreatDoor
open Go.RowKit Go.Maps

/-- what every disk of a script keeps -/
structure GoodA (n : Nat) (A : Pl) : Prop where
  inv : Inv A
  fit : FitN A n
  dat : DatN A
theorem GoodA.step {n : Nat} {A : Pl} (h : GoodA n A) (o : Opp) : GoodA (n + 1) (doP A o).1 := ⟨inv_do h.inv o, fit_do h.inv h.fit o, dat_do h.dat h.fit.room o⟩
theorem GoodA.new {F : List FT} {room : Int} {Z : List Int} (power : Int) (hE : newE F room = 0) (hk : bulkFs F + Z.length ≤ 1048576) : GoodA 0 (newP F room Z power) := by
  obtain ⟨h1, h2, h3⟩ := newE_zero hE
  have hs := bulkFs_sum F
  have hl := bulkFs_length F
  refine ⟨inv_new h1 _ _ _, fit_new power h3 (by omega) (Nat.le_trans hs (by omega)) (by omega), fun f hf => ?_⟩
  obtain ⟨x, hx, e⟩ := List.mem_map.1 hf
  have := bulkFs_mem F x hx
  rw [← e]
  show x.2.length ≤ _
  omega
theorem GoodA.fitP {n : Nat} {A : Pl} (h : GoodA n A) (hn : n ≤ 1000000) : FitP A := h.fit.fit hn
/-- a disk behind a script -/
def runA (A : Pl) (L : List OpT) : Pl := L.foldl (fun A x => (doP A (opOf x.1 x.2.1 x.2.2.1 x.2.2.2)).1) A
theorem runA_snoc (A : Pl) {L : List OpT} {k : Nat} (h : k < L.length) : runA A (L.take (k + 1)) = (doP (runA A (L.take k)) (opOf L[k].1 L[k].2.1 L[k].2.2.1 L[k].2.2.2)).1 := by
  unfold runA
  rw [List.take_succ_eq_append_getElem h, List.foldl_append]
  rfl
theorem GoodA.run {A : Pl} (h : GoodA 0 A) (L : List OpT) : ∀ k, k ≤ L.length → GoodA k (runA A (L.take k))
  | 0, _ => by simpa [runA] using h
  | k + 1, hk => by
    rw [runA_snoc A (by omega)]
    exact (GoodA.run h L k (by omega)).step _

theorem left_bounds {n : Nat} {A : Pl} (h : GoodA n A) (hn : n ≤ 1000000) (k : Int) (keep : List Int) : (leftP A k keep).length ≤ 3600000000000 ∧ ∀ f ∈ leftP A k keep, f.1.length ≤ 140737488351232 ∧ f.2.length ≤ 140737488351232 := by
  refine ⟨?_, fun f hf => ?_⟩
  · unfold leftP leftNP
    rw [List.length_map]
    have h1 := fold_length (A.pend.take k.toNat) A.safe
    have h2 := h.fit.safe
    have h3 := h.fit.pend
    rw [List.length_take] at h1
    omega
  · obtain ⟨x, hx, e⟩ := List.mem_map.1 hf
    have hg := good_len (leftN_good h.inv k x hx)
    rw [← e]
    refine ⟨by show x.1.length ≤ _; omega, ?_⟩
    show (leftDP A keep x.2).length ≤ _
    unfold leftDP
    rw [List.length_take]
    unfold datP
    cases hx2 : A.files[x.2]? with
    | none => simp
    | some y =>
      have := h.dat y (List.mem_of_getElem? hx2)
      simp only [Option.map_some, Option.getD_some]
      omega
theorem left_dp {n : Nat} {w0 W : World} {dd : Nat} {A : Pl} (h : DP w0 dd A W) (hA : GoodA n A) (hn : n ≤ 1000000) (k : Int) (K : List Int) (kp : Option Addr) (m kc : Nat) (hm : K.length = m) (hK : InV W kp (K.map (Value.int .i64))) :
    Calls Tryz.prog 29 #[.pointer (some ⟨dd, 0, none⟩), .agg #[.int .i64 k, .slice kp m kc]] W fun e w' => ∃ p c, e = .returned (.slice p (leftP A k K).length c) ∧ OwnFs w' W.heap.size (.slice p (leftP A k K).length c) (leftP A k K) ∧ InFs w' p (leftP A k K) ∧ Below W.heap.size W w' := by
  subst hm
  obtain ⟨P, h1, h2, h3⟩ := h
  refine (left_p h1 k K kp kc hK hA.inv (hA.fitP hn).pend (hA.fitP hn).safe hA.dat).mono fun e w' hp => ?_
  obtain ⟨v, rfl, hown, hb⟩ := hp
  obtain ⟨p, c, rfl, _, _, hin, _⟩ := hown.shape rfl
  exact ⟨p, c, rfl, hown, hin, hb⟩
end Go.Proofs.YtheoklhmlnfgjaaGreatDoor
