/-
  Apart answers true of rows of bytes that lie in blocks of their own.
-/
import Derived.Test.YtpgjlepjhbjhfaaDoorRowsOf
import Derived.Test.YtpgjlepjhbjhfaaDoorOwnMore
namespace Go.Proofs.YtpgjlepjhbjhfaaDoor
open Go.RowKit

/-- the mark of the k-th list -/
def mkA (k : Nat) : UInt8 := UInt8.ofNat (7 * k + 1)
theorem mkA_u (k : Nat) : ubyte ((7 * (k : Int) + 1) % 256) = mkA k := by
  unfold ubyte mkA
  apply UInt8.toNat_inj.1
  simp only [UInt8.toNat_ofNat']; omega
/-- what the lists hold when k of them are marked -/
def curA (l : Nat → List UInt8) (k t : Nat) : List UInt8 := if t < k then List.replicate (l t).length (mkA t) else l t
theorem curA_length (l : Nat → List UInt8) (k t : Nat) : (curA l k t).length = (l t).length := by unfold curA; split <;> simp
theorem curA_same (l : Nat → List UInt8) (k : Nat) : curA l k k = l k := by unfold curA; rw [if_neg (by omega)]
theorem curA_next (l : Nat → List UInt8) (k t : Nat) (h : t ≠ k) : curA l (k + 1) t = curA l k t := by
  unfold curA; by_cases c : t < k
  · rw [if_pos c, if_pos (by omega)]
  · rw [if_neg c, if_neg (by omega)]
theorem curA_new (l : Nat → List UInt8) (k : Nat) : curA l (k + 1) k = List.replicate (l k).length (mkA k) := by unfold curA; rw [if_pos (by omega)]
theorem set_marks (x : List UInt8) (m : Nat) (u : UInt8) (h : m < x.length) : (List.replicate m u ++ x.drop m).set m u = List.replicate (m + 1) u ++ x.drop (m + 1) := by
  rw [List.set_append_right _ _ (by simp), List.length_replicate, Nat.sub_self, List.drop_eq_getElem_cons h, List.set_cons_zero, List.replicate_succ']
  simp

theorem Own8.form {w : World} {base n : Nat} {v : Value} {l : List UInt8} (h : Own8 w base v l) (hn : l.length = n) : ∃ p c, v = .slice p n c := by
  rcases h.2 with ⟨e, h0⟩ | ⟨g', cap, cur, e, _⟩
  · exact ⟨none, 0, by rw [e, ← hn, h0]⟩
  · exact ⟨_, _, by rw [e, hn]⟩
/-- how the grown list lies to the row from which it grew -/
def WayA (w : World) (r one : Value) (n m : Nat) : Prop :=
  (∃ g cap, r = .slice (some ⟨g, 0, none⟩) n cap ∧ one = .slice (some ⟨g, 0, none⟩) (n + m) cap) ∨ (∀ g, one.ownBlock = some g → w.heap.size ≤ g)

theorem apart_step {w W w2 : World} {A : Nat → Prop} {n base k m : Nat} {p : Nat → Option Addr} {c : Nat → Nat} {l F : Nat → List UInt8} {one v2 : Value} {x y : List UInt8} (hk : k < n)
    (hlt : ∀ t g, t < n → (Value.slice (p t) (l t).length (c t)).ownBlock = some g → g < w.heap.size) (hA : ∀ t g, t < n → (Value.slice (p t) (l t).length (c t)).ownBlock = some g → A g)
    (hdis : ∀ i j, i < n → j < n → i ≠ j → (Value.slice (p i) (l i).length (c i)).ownBlock = none ∨ (Value.slice (p i) (l i).length (c i)).ownBlock ≠ (Value.slice (p j) (l j).length (c j)).ownBlock)
    (hF : ∀ t, (F t).length = (l t).length) (hx : x.length = m)
    (hrows : ∀ t, t < n → Own8 W base (.slice (p t) (l t).length (c t)) (F t)) (hon : Only A w W) (hway : WayA w (.slice (p k) (l k).length (c k)) one (l k).length m) (hb : Behind W w2 base one v2 (F k ++ x) y) :
    (∀ t, t < n → Own8 w2 base (.slice (p t) (l t).length (c t)) (F t)) ∧ Only A w w2 ∧ WayA w (.slice (p k) (l k).length (c k)) v2 (l k).length (m + y.length) := by
  obtain ⟨h1, h2, h3⟩ := hb
  have hlen : (F k ++ x).length = (l k).length + m := by rw [List.length_append, hF, hx]
  rcases h3 with ⟨g, cap, e1, e2⟩ | ⟨cap, e2, h4⟩ | ⟨rfl, rfl, h4⟩
  · rw [hlen] at e1 e2
    subst e1 e2
    rcases hway with ⟨g', cap', e3, e4⟩ | hfr
    · simp only [Value.slice.injEq, Option.some.injEq, Addr.mk.injEq, and_true, true_and] at e4
      obtain ⟨rfl, rfl⟩ := e4
      have hgk : (Value.slice (p k) (l k).length (c k)).ownBlock = some g := by rw [e3]; rfl
      refine ⟨fun t ht => ?_, hon.grown h2 (fun q e => .inl ?_), .inl ⟨g, cap, e3, by rw [Nat.add_assoc]⟩⟩
      · by_cases htk : t = k
        · subst htk
          rw [e3, ← hF t]
          rw [List.append_assoc] at h1
          exact h1.first
        · refine (hrows t ht).kept h2 ?_
          rcases hdis t k ht hk htk with h | h
          · exact .inl h
          · exact .inr (by rw [hgk] at h; exact h)
      · cases e; exact hA k g hk hgk
    · have hg := hfr g rfl
      refine ⟨fun t ht => (hrows t ht).kept h2 ?_, hon.grown h2 (fun q e => .inr ?_), .inr (fun q e => ?_)⟩
      · cases ho : (Value.slice (p t) (l t).length (c t)).ownBlock with
        | none => exact .inl rfl
        | some q => refine .inr (fun e => ?_); have h5 := hlt t q ht ho; have e' : some q = some g := e; injection e' with e'; omega
      · cases e; exact hg
      · cases e; exact hg
  · subst e2
    refine ⟨fun t ht => (hrows t ht).kept h4 ?_, hon.grown h4 (fun q e => by cases e), .inr (fun q e => ?_)⟩
    · cases ho : (Value.slice (p t) (l t).length (c t)).ownBlock with
      | none => exact .inl rfl
      | some q => exact .inr (by simp)
    · cases e; exact hon.size
  · refine ⟨hrows, hon, ?_⟩
    rw [h4]; exact hway
theorem rowsA_alloc {W : World} {n base : Nat} {V : Nat → Value} {F : Nat → List UInt8} (h : ∀ t, t < n → Own8 W base (V t) (F t)) (o : Obj) : ∀ t, t < n → Own8 (W.alloc o) base (V t) (F t) := fun t ht => (h t ht).alloc o
theorem curA_all (l : Nat → List UInt8) (n k : Nat) (h : k < n) : curA l n k = List.replicate (l k).length (mkA k) := by unfold curA; rw [if_pos h]
theorem bt_mark (n k m : Nat) (h : m < n) : bt (List.replicate n (mkA k)) m = (7 * (k : Int) + 1) % 256 := by
  rw [bt_get _ m (by simpa using h), List.getElem_replicate]
  unfold mkA
  simp only [UInt8.toNat_ofNat']; omega

set_option maxHeartbeats 4000000 in
theorem apart_any (n B base : Nat) (hn : n ≤ 100) (cc : Nat) (_ : n ≤ cc) (p : Nat → Option Addr) (c : Nat → Nat) (l : Nat → List UInt8) (w : World)
    (hcell : ∀ i, i < n → w.cell? ⟨B, i, none⟩ = some (.slice (p i) (l i).length (c i))) (hown : ∀ i, i < n → Own8 w base (.slice (p i) (l i).length (c i)) (l i))
    (hdis : ∀ i j, i < n → j < n → i ≠ j → (Value.slice (p i) (l i).length (c i)).ownBlock = none ∨ (Value.slice (p i) (l i).length (c i)).ownBlock ≠ (Value.slice (p j) (l j).length (c j)).ownBlock)
    (hB : ∀ i, i < n → (Value.slice (p i) (l i).length (c i)).ownBlock ≠ some B) (hsz : ∀ i, i < n → (l i).length ≤ 100000000000000) (hbase : base ≤ w.heap.size) :
    Calls Tryd.prog 33 #[.slice (some ⟨B, 0, none⟩) n cc] w fun e w' => e = .returned (.bool true) ∧ Only (fun k => ∃ i, i < n ∧ (Value.slice (p i) (l i).length (c i)).ownBlock = some k) w w' := by
  obtain ⟨A, hA⟩ : ∃ A : Nat → Prop, A = (fun k => ∃ i, i < n ∧ (Value.slice (p i) (l i).length (c i)).ownBlock = some k) := ⟨_, rfl⟩
  rw [← hA]
  have hAB : ¬ A B := by rw [hA]; rintro ⟨i, hi, e⟩; exact hB i hi e
  have hAi : ∀ i g, i < n → (Value.slice (p i) (l i).length (c i)).ownBlock = some g → A g := fun i g hi e => by rw [hA]; exact ⟨i, hi, e⟩
  have HC := Lib.hid hcell
  have HO := Lib.hid hown
  have HD := Lib.hid hdis
  have HS := Lib.hid hsz
  have HAi := Lib.hid hAi
  clear hcell hown hdis hsz hAi hB hA
  go_enter Tryd.func33, Tryd.ntmps33
  go_wp2
  go_loopw [3] (fun i wr => ∃ k : Nat, k ≤ n ∧ i = .int .i64 k ∧ (∀ t, t < n → Own8 wr base (.slice (p t) (l t).length (c t)) (curA l k t)) ∧ Only A w wr) (fun i _ => n - (intOf i).toNat)
  case atStart => exact ⟨0, Nat.zero_le _, rfl, fun t ht => by unfold curA; rw [if_neg (by omega)]; exact HO.out t ht, Only.refl _ _⟩
  case round =>
    obtain ⟨k, hk, rfl, hrows, hon⟩ := hrel
    have HR := Lib.hid hrows
    clear hrows
    by_cases hlt : k < n
    · have hck := hon.cell (HC.out k hlt) hAB
      obtain ⟨wo, rfl⟩ : ∃ wo : World, wo = wr := ⟨_, rfl⟩
      go_wp2
      go_loopw [4] (fun j wj => ∃ m : Nat, m ≤ (l k).length ∧ j = .int .i64 m ∧ Own8 wj base (.slice (p k) (l k).length (c k)) (List.replicate m (mkA k) ++ (l k).drop m) ∧ (∀ t, t < n → t ≠ k → Own8 wj base (.slice (p t) (l t).length (c t)) (curA l k t)) ∧ Only A w wj) (fun j _ => (l k).length - (intOf j).toNat)
      case atStart => exact ⟨0, Nat.zero_le _, rfl, by have := HR.out k hlt; rw [curA_same] at this; simpa using this, fun t ht _ => HR.out t ht, hon⟩
      case round =>
        obtain ⟨m, hm, rfl, hrow, hrest, hon2⟩ := hrel
        have HRR := Lib.hid hrest
        clear hrest
        have hcj := hon2.cell (HC.out k hlt) hAB
        by_cases hmlt : m < (l k).length
        · have hll : (List.replicate m (mkA k) ++ (l k).drop m).length = (l k).length := by simp; omega
          obtain ⟨g, c', hv, hg1, hg2⟩ := hrow.opened hll (by omega)
          have hpk : p k = some ⟨g, 0, none⟩ := by simp only [Value.slice.injEq] at hv; exact hv.1
          have hrow' := hrow
          rw [hpk] at hrow' hcj
          obtain ⟨hce, hfr⟩ := hrow'.cells hll (j := m) hmlt
          have hst := hrow'.stored hll m ((7 * (k : Int) + 1) % 256) (by omega) (by omega)
          rw [mkA_u, set_marks _ _ _ hmlt, ← hpk] at hst
          have hAg : A g := HAi.out k g hlt (by rw [hpk]; rfl)
          have hon3 := hon2.setCell (a := ⟨g, m, none⟩) hAg (.int .u8 ((7 * (k : Int) + 1) % 256))
          have hkeep : ∀ t, t < n → t ≠ k → Own8 (wr.setCell ⟨g, m, none⟩ (.int .u8 ((7 * (k : Int) + 1) % 256))) base (.slice (p t) (l t).length (c t)) (curA l k t) := fun t ht hne =>
            (HRR.out t ht hne).setOther (by rcases HD.out t k ht hlt hne with h | h; · rw [h]; simp
                                            · rw [hpk] at h; exact h) _
          have HK := Lib.hid hkeep
          clear hkeep hrow hrow'
          have hsk := HS.out k hlt
          go_wp2
          go_roundw
          case rel => exact ⟨m + 1, by omega, by go_num, hst.1, HK.out, hon3⟩
          case measure => simp [intOf]; omega
        · obtain rfl : m = (l k).length := by omega
          rw [List.drop_length, List.append_nil] at hrow
          have hnew : ∀ t, t < n → Own8 wr base (.slice (p t) (l t).length (c t)) (curA l (k + 1) t) := fun t ht => by
            by_cases e : t = k
            · subst e; rw [curA_new]; exact hrow
            · rw [curA_next l k t e]; exact HRR.out t ht e
          have HN := Lib.hid hnew
          clear hnew hrow
          go_wp2
          go_roundw
          case rel => exact ⟨k + 1, by omega, by go_num, HN.out, hon2⟩
          case measure => simp [intOf]; omega
    · have ekn : n = k := by omega
      subst ekn
      clear hlt
      go_wp2
      obtain ⟨wo, rfl⟩ : ∃ wo : World, wo = wr := ⟨_, rfl⟩
      go_loopw [5] (fun i wj => ∃ k : Nat, k ≤ n ∧ i = .int .i64 k ∧ (∀ t, t < n → Own8 wj base (.slice (p t) (l t).length (c t)) (curA l n t)) ∧ Only A w wj) (fun i _ => n - (intOf i).toNat)
      case atStart => exact ⟨0, Nat.zero_le _, rfl, HR.out, hon⟩
      case round =>
        obtain ⟨k, hk, rfl, hrows, hon2⟩ := hrel
        have HR2 := Lib.hid hrows
        clear hrows
        by_cases hlt : k < n
        · have hck := hon2.cell (HC.out k hlt) hAB
          have hsk := HS.out k hlt
          obtain ⟨wp, rfl⟩ : ∃ wp : World, wp = wr := ⟨_, rfl⟩
          go_wp2
          have hlk : ∀ t g, t < n → (Value.slice (p t) (l t).length (c t)).ownBlock = some g → g < w.heap.size := fun t g ht e => (own_lt (HO.out t ht) e).2
          have HL := Lib.hid hlk
          clear hlk
          go_loopw [6, 7] (fun one j wj => ∃ m : Nat, m ≤ 16 ∧ j = .int .i64 m ∧ (∃ x : List UInt8, x.length = m ∧ Own8 wj base one (curA l n k ++ x)) ∧ (∀ t, t < n → Own8 wj base (.slice (p t) (l t).length (c t)) (curA l n t)) ∧ Only A w wj ∧ WayA w (.slice (p k) (l k).length (c k)) one (l k).length m) (fun _ j _ => 16 - (intOf j).toNat)
          case atStart => 
            refine ⟨0, Nat.zero_le _, rfl, ⟨[], rfl, by simpa using HR2.out k hlt⟩, HR2.out, hon2, ?_⟩
            have h1 := HR2.out k hlt
            cases ho : (Value.slice (p k) (l k).length (c k)).ownBlock with
            | none => exact .inr (fun g e => by rw [ho] at e; cases e)
            | some g =>
              rcases h1.2 with ⟨e, _⟩ | ⟨g', cap, cur, e, _⟩
              · rw [e] at ho; cases ho
              · rw [curA_length] at e
                exact .inl ⟨g', cap, e, by rw [Nat.add_zero]; exact e⟩
          case round =>
            obtain ⟨m, hm, rfl, ⟨x, hx, hone⟩, hrows, hon3, hway⟩ := hrel
            have HR3 := Lib.hid hrows
            clear hrows
            by_cases hm16 : m < 16
            · have hck3 := hon3.cell (HC.out k hlt) hAB
              have hlen : (curA l n k ++ x).length = (l k).length + m := by rw [List.length_append, curA_length, hx]
              have hz3 := hon3.size
              go_wp2_with (at_builtin; refine wpList_append8k rfl _ _ rfl base _ (curA l n k ++ x) rfl (hone.alloc _) _ 1 _ [ubyte (128 + (k : Int))] rfl rfl (In8.one _ _ (by omega) (by omega)) (by rw [hlen]; omega) (by rw [World.size_alloc]; omega) ?_; intro v2 w2 hb2)
              have hst := apart_step hlt HL.out HAi.out HD.out (fun t => curA_length l n t) hx (rowsA_alloc HR3.out _) (hon3.alloc _) hway hb2
              go_wp2
              go_roundw
              case rel =>
                refine ⟨m + 1, by omega, by go_num, ⟨x ++ [ubyte (128 + (k : Int))], by simp [hx], ?_⟩, hst.1, hst.2.1, hst.2.2⟩
                rw [← List.append_assoc]; exact hb2.1
              case measure => simp [intOf]; omega
            · obtain rfl : m = 16 := by omega
              have hck3 := hon3.cell (HC.out k hlt) hAB
              have hz3 := hon3.size
              have hl1 : (curA l n k ++ x).length = (l k).length + 16 := by rw [List.length_append, curA_length, hx]
              have hl2 : (curA l n k ++ List.replicate 600 0).length = (l k).length + 600 := by rw [List.length_append, curA_length, List.length_replicate]
              obtain ⟨p1, c1, e1⟩ := hone.form hl1
              subst e1
              have hway0 : WayA w (.slice (p k) (l k).length (c k)) (.slice (p k) (l k).length (c k)) (l k).length 0 := by
                cases ho : (Value.slice (p k) (l k).length (c k)).ownBlock with
                | none => exact .inr (fun g e => by rw [ho] at e; cases e)
                | some g =>
                  rcases (HO.out k hlt).2 with ⟨e, _⟩ | ⟨g', cap, cur, e, _⟩
                  · rw [e] at ho; cases ho
                  · exact .inl ⟨g', cap, e, by rw [Nat.add_zero]; exact e⟩
              go_wp2_with (at_builtin; refine wpList_append8z rfl _ _ rfl base _ (curA l n k) rfl (HR3.out k hlt) 600 600 rfl rfl (by omega) (by omega) (by rw [curA_length]; omega) (by omega) ?_; intro v2 w2 hb2; obtain ⟨p2, c2, e2⟩ := hb2.1.form hl2; subst e2; have hst := apart_step (x := []) (m := 0) hlt HL.out HAi.out HD.out (fun t => curA_length l n t) rfl HR3.out hon3 hway0 (by rw [List.append_nil]; exact hb2); have hon4 := hst.2.1; have hck4 := hon4.cell (HC.out k hlt) hAB; have HR4 := Lib.hid hst.1; clear hst hone hb2 hway hway0)
              go_wp2
              go_roundw
              case rel => exact ⟨k + 1, by omega, by go_num, HR4.out, hon4⟩
              case measure => simp [intOf]; omega
        · have ekn : n = k := by omega
          subst ekn
          clear hlt
          obtain ⟨wp, rfl⟩ : ∃ wp : World, wp = wr := ⟨_, rfl⟩
          go_wp2
          go_loopw [9] (fun i wj => ∃ k : Nat, k ≤ n ∧ i = .int .i64 k ∧ wj = wp) (fun i _ => n - (intOf i).toNat)
          case atStart => exact ⟨0, Nat.zero_le _, rfl, rfl⟩
          case round =>
            obtain ⟨k, hk, rfl, rfl⟩ := hrel
            by_cases hlt : k < n
            · have hck := hon2.cell (HC.out k hlt) hAB
              have hsk := HS.out k hlt
              have hrow := HR2.out k hlt
              rw [curA_all l n k hlt] at hrow
              have hin := hrow.in8n (n := (l k).length) (by simp)
              go_wp2
              go_loopw [10] (fun j wj => ∃ m : Nat, m ≤ (l k).length ∧ j = .int .i64 m ∧ wj = wr) (fun j _ => (l k).length - (intOf j).toNat)
              case atStart => exact ⟨0, Nat.zero_le _, rfl, rfl⟩
              case round =>
                obtain ⟨m, hm, rfl, rfl⟩ := hrel
                by_cases hmlt : m < (l k).length
                · have hbt := bt_mark (l k).length k m hmlt
                  obtain ⟨g, c', hv, hg1, hg2⟩ := hrow.opened (by simp) (show 0 < (l k).length by omega)
                  have hpk : p k = some ⟨g, 0, none⟩ := by simp only [Value.slice.injEq] at hv; exact hv.1
                  rw [hpk] at hrow hck
                  obtain ⟨hce, hfr⟩ := hrow.cells (n := (l k).length) (by simp) (j := m) hmlt
                  rw [hbt] at hce
                  clear hrow hin
                  go_wp2
                  go_roundw
                  case rel => exact ⟨m + 1, by omega, by go_num, trivial⟩
                  case measure => simp [intOf]; omega
                · obtain rfl : m = (l k).length := by omega
                  go_wp2
                  go_roundw
                  case rel => exact ⟨k + 1, by omega, by go_num, trivial⟩
                  case measure => simp [intOf]; omega
            · have ekn : n = k := by omega
              subst ekn
              go_wp2
              go_ret
              exact ⟨rfl, hon2⟩
end Go.Proofs.YtpgjlepjhbjhfaaDoor
