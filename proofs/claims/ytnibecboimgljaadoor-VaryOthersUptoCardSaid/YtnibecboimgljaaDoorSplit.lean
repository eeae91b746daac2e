/-
  split and the document's Pieces: a text cut outside of quoted stretches.
-/
import Derived.Test.YtnibecboimgljaaDoorTexts
import Derived.Test.YtnibecboimgljaaDoorPieces
import Derived.Test.YtnibecboimgljaaDoorTrim
namespace Go.Proofs.YtnibecboimgljaaDoor
open Go.RowKit

theorem part_list (s : ByteArray) (f k : Nat) : (s.extract f k).data.toList = (s.data.toList.take k).drop f := by
  rw [Lib.extract_data, List.drop_take]
theorem rest_list (s : ByteArray) (f : Nat) : (s.extract f s.size).data.toList = s.data.toList.drop f := by
  rw [Lib.extract_data, List.take_of_length_le (by rw [List.length_drop, size_list]; omega)]
theorem get_str (s : ByteArray) (k : Nat) (h : k < s.size) : ∃ hl : k < s.data.toList.length, (s.data.toList[k].toNat : Int) = (s[k].toNat : Int) := by
  have hl : k < s.data.toList.length := by rw [size_list]; exact h
  exact ⟨hl, by rw [← bt_str s k h, bt_get _ k hl]⟩
theorem beq_t {a b : Int} (h : a = b) : (a == b) = true := by rw [h]; exact beq_self_eq_true b
theorem beq_f {a b : Int} (h : ¬ a = b) : (a == b) = false := beq_eq_false_iff_ne.2 h
set_option maxHeartbeats 4000000 in
theorem split_any (s : ByteArray) (c : Int) (cb : UInt8) (hc : (cb.toNat : Int) = c) (h34 : ¬ c = 34) (w : World) (hs : s.size ≤ 8000000000) :
    Calls Tryd.prog 47 #[.string s, .int .u8 c] w fun e w' => ∃ v, e = .returned v ∧ OwnS w' w.heap.size v ((pieces cb s.data.toList).map trim) ∧ Below w.heap.size w w' := by
  have hcb : cb ≠ 34 := by rintro rfl; exact h34 (by rw [← hc]; rfl)
  have HC := Lib.hid hc
  have HCB := Lib.hid hcb
  have HZ := Lib.hid (size_list s)
  clear hc hcb
  go_enter Tryd.func47, Tryd.ntmps47
  go_wp2
  go_loopw [5, 6, 7, 8] (fun v f q i wr => ∃ (k fr : Nat) (qq : Bool) (out : List (List UInt8)), k ≤ s.size + 1 ∧ fr ≤ k ∧ fr ≤ s.size ∧ f = .int .i64 fr ∧ q = .bool qq ∧ i = .int .i64 k ∧ OwnS wr w.heap.size v (out.map trim) ∧ out.length ≤ fr ∧ out ++ cutSt cb s.data.toList k fr qq = pieces cb s.data.toList ∧ Below w.heap.size w wr) (fun _ _ _ i _ => s.size + 2 - (intOf i).toNat)
  case atStart => exact ⟨0, 0, false, [], by omega, by omega, by omega, rfl, rfl, rfl, OwnS.nil _ _, by simp, rfl, Below.refl _ _⟩
  case round =>
    obtain ⟨k, fr, qq, out, hk, hfk, hfs, rfl, rfl, rfl, hown, hol, heq, hb⟩ := hrel
    have HE := Lib.hid heq
    have hbs := hb.size
    clear heq
    by_cases hlt : k < s.size
    · obtain ⟨hl, hg⟩ := get_str s k hlt
      have HG := Lib.hid hg
      clear hg
      have cases4 : (qq = true ∧ (s[k].toNat : Int) = 92) ∨ ((s[k].toNat : Int) = 34) ∨ (qq = false ∧ ¬ (s[k].toNat : Int) = 34 ∧ (s[k].toNat : Int) = c) ∨
          (¬ (s[k].toNat : Int) = 34 ∧ (qq = false ∨ ¬ (s[k].toNat : Int) = 92) ∧ (qq = true ∨ ¬ (s[k].toNat : Int) = c)) := by
        by_cases a : (s[k].toNat : Int) = 34
        · exact .inr (.inl a)
        · cases qq
          · by_cases b : (s[k].toNat : Int) = c
            · exact .inr (.inr (.inl ⟨rfl, a, b⟩))
            · exact .inr (.inr (.inr ⟨a, .inl rfl, .inr b⟩))
          · by_cases b : (s[k].toNat : Int) = 92
            · exact .inl ⟨rfl, b⟩
            · exact .inr (.inr (.inr ⟨a, .inr b, .inl rfl⟩))
      rcases cases4 with ⟨rfl, a⟩ | a | ⟨rfl, a, b⟩ | ⟨a, b, d⟩
      · have t1 := beq_t a
        have HS := Lib.hid (cutSt_esc cb s.data.toList k fr hl hfk (by rw [HG.out]; exact a))
        have HA := Lib.hid a
        clear a
        go_wp2
        go_roundw
        case rel => exact ⟨k + 2, fr, true, out, by omega, by omega, hfs, rfl, rfl, by go_num, hown, hol, by rw [← HS.out]; exact HE.out, hb⟩
        case measure => simp [intOf]; omega
      · have t1 : ((s[k].toNat : Int) == 92) = false := beq_f (by omega)
        have t2 := beq_t a
        have HS := Lib.hid (cutSt_quote cb s.data.toList k fr qq hl hfk (by rw [HG.out]; exact a))
        have HA := Lib.hid a
        clear a
        cases qq
        all_goals
          go_wp2
          go_roundw
          case rel => exact ⟨k + 1, fr, _, out, by omega, by omega, hfs, rfl, rfl, by go_num, hown, hol, by rw [HS.out] at HE; exact HE.out, hb⟩
          case measure => simp [intOf]; omega
      · have t2 := beq_f a
        have t3 := beq_t b
        have HS := Lib.hid (cutSt_cut cb s.data.toList k fr hl HCB.out (by rw [HG.out, HC.out]; exact b))
        have HP := Lib.hid (part_list s fr k)
        have hlen : ((s.data.toList.take k).drop fr).length ≤ s.size := by rw [List.length_drop, List.length_take, HZ.out]; omega
        have HA := Lib.hid a
        have HB := Lib.hid b
        clear a b
        have z1 : (fr : Int) ≤ (k : Int) := by omega
        have z2 : (k : Int) ≤ (s.size : Int) := by omega
        go_wp2_with fail
        have hsz : (s.extract fr k).size ≤ maxLen := by rw [← size_list, HP.out]; unfold maxLen; omega
        refine (tokTrim_any _ _ hsz).mono ?_
        rintro e w1 ⟨rfl, hb1⟩
        rw [HP.out]
        have hown1 := hown.below hb1
        have hb1' := hb.trans (hb1.mono hbs)
        have hbs1 := hb1'.size
        generalize ht : (⟨(trim ((s.data.toList.take k).drop fr)).toArray⟩ : ByteArray) = t
        have htl : t.data.toList = trim ((s.data.toList.take k).drop fr) := by rw [← ht]
        have hin := InS.one w1 t
        rw [htl] at hin
        have HT := Lib.hid ht
        have HTL := Lib.hid htl
        clear ht htl hsz
        have hown2 := hown1.alloc (.cells #[.string t] 9)
        go_wp2_with (at_builtin; refine wpList_appendS rfl _ _ rfl w.heap.size _ _ rfl hown2 _ _ _ _ rfl rfl hin (by simp; omega) (by simp; omega) ?_; intro v2 w2 hown3 hgrow3 _)
        go_roundw
        case rel => exact ⟨k + 1, k + 1, false, out ++ [(s.data.toList.take k).drop fr], by omega, by omega, by omega, by go_num, rfl, by go_num, by rw [List.map_append]; exact hown3, by simp; omega, by have h := HE.out; rw [HS.out] at h; simpa using h, OwnS.grown (hb1'.alloc hbs1 _) (by simp; omega) hown2 hgrow3⟩
        case measure => simp [intOf]; omega
      · have t2 := beq_f a
        have HS := Lib.hid (cutSt_other cb s.data.toList k fr qq hl hfk (by rw [HG.out]; exact b) (by rw [HG.out]; exact a) (by rw [HG.out, HC.out]; exact d))
        have b' : qq = false ∨ ((s[k].toNat : Int) == 92) = false := by
          rcases b with b | b
          · exact .inl b
          · exact .inr (beq_f b)
        have d' : qq = true ∨ ((s[k].toNat : Int) == c) = false := by
          rcases d with d | d
          · exact .inl d
          · exact .inr (beq_f d)
        clear a b d
        cases qq
        · have t3 : ((s[k].toNat : Int) == c) = false := by simpa using d'
          clear b' d'
          go_wp2
          go_roundw
          case rel => exact ⟨k + 1, fr, _, out, by omega, by omega, hfs, rfl, rfl, by go_num, hown, hol, by rw [HS.out] at HE; exact HE.out, hb⟩
          case measure => simp [intOf]; omega
        · have t3 : ((s[k].toNat : Int) == 92) = false := by simpa using b'
          clear b' d'
          go_wp2
          go_roundw
          case rel => exact ⟨k + 1, fr, _, out, by omega, by omega, hfs, rfl, rfl, by go_num, hown, hol, by rw [HS.out] at HE; exact HE.out, hb⟩
          case measure => simp [intOf]; omega
    · have HS := Lib.hid (cutSt_end cb s.data.toList k fr qq (by rw [HZ.out]; omega))
      have HP := Lib.hid (rest_list s fr)
      have z1 : (fr : Int) ≤ (s.size : Int) := by omega
      go_wp2_with fail
      have hsz : (s.extract fr s.size).size ≤ maxLen := by rw [← size_list, HP.out, List.length_drop, HZ.out]; unfold maxLen; omega
      refine (tokTrim_any _ _ hsz).mono ?_
      rintro e w1 ⟨rfl, hb1⟩
      rw [HP.out]
      have hown1 := hown.below hb1
      have hb1' := hb.trans (hb1.mono hbs)
      have hbs1 := hb1'.size
      generalize ht : (⟨(trim (s.data.toList.drop fr)).toArray⟩ : ByteArray) = t
      have htl : t.data.toList = trim (s.data.toList.drop fr) := by rw [← ht]
      have hin := InS.one w1 t
      rw [htl] at hin
      have HT := Lib.hid ht
      have HTL := Lib.hid htl
      clear ht htl hsz
      have hown2 := hown1.alloc (.cells #[.string t] 9)
      go_wp2_with (at_builtin; refine wpList_appendS rfl _ _ rfl w.heap.size _ _ rfl hown2 _ _ _ _ rfl rfl hin (by simp; omega) (by simp; omega) ?_; intro v2 w2 hown3 hgrow3 _)
      go_ret
      refine ⟨v2, rfl, ?_, OwnS.grown (hb1'.alloc hbs1 _) (by simp; omega) hown2 hgrow3⟩
      have h := HE.out
      rw [HS.out] at h
      rw [← h, List.map_append]
      exact hown3

set_option maxHeartbeats 4000000 in
theorem refPieces_any (s : ByteArray) (c : Int) (cb : UInt8) (hc : (cb.toNat : Int) = c) (h34 : ¬ c = 34) (w : World) (hs : s.size ≤ 8000000000) :
    Calls Tryd.prog 49 #[.string s, .int .u8 c] w fun e w' => ∃ v, e = .returned v ∧ OwnS w' w.heap.size v (pieces cb s.data.toList) ∧ Below w.heap.size w w' := by
  have hcb : cb ≠ 34 := by rintro rfl; exact h34 (by rw [← hc]; rfl)
  have HC := Lib.hid hc
  have HCB := Lib.hid hcb
  have HZ := Lib.hid (size_list s)
  clear hc hcb
  go_enter Tryd.func49, Tryd.ntmps49
  go_wp2
  go_loopw [5, 6, 7, 8] (fun v f q i wr => ∃ (k fr : Nat) (qq : Bool) (out : List (List UInt8)), k ≤ s.size + 1 ∧ fr ≤ k ∧ fr ≤ s.size ∧ f = .int .i64 fr ∧ q = .bool qq ∧ i = .int .i64 k ∧ OwnS wr w.heap.size v out ∧ out.length ≤ fr ∧ out ++ cutSt cb s.data.toList k fr qq = pieces cb s.data.toList ∧ Below w.heap.size w wr) (fun _ _ _ i _ => s.size + 2 - (intOf i).toNat)
  case atStart => exact ⟨0, 0, false, [], by omega, by omega, by omega, rfl, rfl, rfl, OwnS.made w, by simp, rfl, (Below.refl _ _).alloc (Nat.le_refl _) _⟩
  case round =>
    obtain ⟨k, fr, qq, out, hk, hfk, hfs, rfl, rfl, rfl, hown, hol, heq, hb⟩ := hrel
    have HE := Lib.hid heq
    have hbs := hb.size
    clear heq
    by_cases hlt : k < s.size
    · obtain ⟨hl, hg⟩ := get_str s k hlt
      have HG := Lib.hid hg
      clear hg
      have cases4 : (qq = true ∧ (s[k].toNat : Int) = 92) ∨ ((s[k].toNat : Int) = 34) ∨ (qq = false ∧ ¬ (s[k].toNat : Int) = 34 ∧ (s[k].toNat : Int) = c) ∨
          (¬ (s[k].toNat : Int) = 34 ∧ (qq = false ∨ ¬ (s[k].toNat : Int) = 92) ∧ (qq = true ∨ ¬ (s[k].toNat : Int) = c)) := by
        by_cases a : (s[k].toNat : Int) = 34
        · exact .inr (.inl a)
        · cases qq
          · by_cases b : (s[k].toNat : Int) = c
            · exact .inr (.inr (.inl ⟨rfl, a, b⟩))
            · exact .inr (.inr (.inr ⟨a, .inl rfl, .inr b⟩))
          · by_cases b : (s[k].toNat : Int) = 92
            · exact .inl ⟨rfl, b⟩
            · exact .inr (.inr (.inr ⟨a, .inr b, .inl rfl⟩))
      rcases cases4 with ⟨rfl, a⟩ | a | ⟨rfl, a, b⟩ | ⟨a, b, d⟩
      · have t1 := beq_t a
        have HS := Lib.hid (cutSt_esc cb s.data.toList k fr hl hfk (by rw [HG.out]; exact a))
        have HA := Lib.hid a
        clear a
        go_wp2
        go_roundw
        case rel => exact ⟨k + 2, fr, true, out, by omega, by omega, hfs, rfl, rfl, by go_num, hown, hol, by rw [← HS.out]; exact HE.out, hb⟩
        case measure => simp [intOf]; omega
      · have t1 : ((s[k].toNat : Int) == 92) = false := beq_f (by omega)
        have t2 := beq_t a
        have HS := Lib.hid (cutSt_quote cb s.data.toList k fr qq hl hfk (by rw [HG.out]; exact a))
        have HA := Lib.hid a
        clear a
        cases qq
        all_goals
          go_wp2
          go_roundw
          case rel => exact ⟨k + 1, fr, _, out, by omega, by omega, hfs, rfl, rfl, by go_num, hown, hol, by rw [HS.out] at HE; exact HE.out, hb⟩
          case measure => simp [intOf]; omega
      · have t2 := beq_f a
        have t3 := beq_t b
        have HS := Lib.hid (cutSt_cut cb s.data.toList k fr hl HCB.out (by rw [HG.out, HC.out]; exact b))
        have hin := InS.one wr (s.extract fr k)
        rw [part_list s fr k] at hin
        have HA := Lib.hid a
        have HB := Lib.hid b
        clear a b
        have z1 : (fr : Int) ≤ (k : Int) := by omega
        have z2 : (k : Int) ≤ (s.size : Int) := by omega
        have hown2 := hown.alloc (.cells #[.string (s.extract fr k)] 9)
        go_wp2_with (at_builtin; refine wpList_appendS rfl _ _ rfl w.heap.size _ _ rfl hown2 _ _ _ _ rfl rfl hin (by simp; omega) (by simp; omega) ?_; intro v2 w2 hown3 hgrow3 _)
        go_roundw
        case rel => exact ⟨k + 1, k + 1, false, out ++ [(s.data.toList.take k).drop fr], by omega, by omega, by omega, by go_num, rfl, by go_num, hown3, by simp; omega, by have h := HE.out; rw [HS.out] at h; simpa using h, OwnS.grown (hb.alloc hbs _) (by simp; omega) hown2 hgrow3⟩
        case measure => simp [intOf]; omega
      · have t2 := beq_f a
        have HS := Lib.hid (cutSt_other cb s.data.toList k fr qq hl hfk (by rw [HG.out]; exact b) (by rw [HG.out]; exact a) (by rw [HG.out, HC.out]; exact d))
        have b' : qq = false ∨ ((s[k].toNat : Int) == 92) = false := by
          rcases b with b | b
          · exact .inl b
          · exact .inr (beq_f b)
        have d' : qq = true ∨ ((s[k].toNat : Int) == c) = false := by
          rcases d with d | d
          · exact .inl d
          · exact .inr (beq_f d)
        clear a b d
        cases qq
        · have t3 : ((s[k].toNat : Int) == c) = false := by simpa using d'
          clear b' d'
          go_wp2
          go_roundw
          case rel => exact ⟨k + 1, fr, _, out, by omega, by omega, hfs, rfl, rfl, by go_num, hown, hol, by rw [HS.out] at HE; exact HE.out, hb⟩
          case measure => simp [intOf]; omega
        · have t3 : ((s[k].toNat : Int) == 92) = false := by simpa using b'
          clear b' d'
          by_cases t4 : (s[k].toNat : Int) = c
          · have t5 := beq_t t4
            have HT4 := Lib.hid t4
            clear t4
            go_wp2
            go_roundw
            case rel => exact ⟨k + 1, fr, _, out, by omega, by omega, hfs, rfl, rfl, by go_num, hown, hol, by rw [HS.out] at HE; exact HE.out, hb⟩
            case measure => simp [intOf]; omega
          · have t5 := beq_f t4
            clear t4
            go_wp2
            go_roundw
            case rel => exact ⟨k + 1, fr, _, out, by omega, by omega, hfs, rfl, rfl, by go_num, hown, hol, by rw [HS.out] at HE; exact HE.out, hb⟩
            case measure => simp [intOf]; omega
    · have HS := Lib.hid (cutSt_end cb s.data.toList k fr qq (by rw [HZ.out]; omega))
      have hin := InS.one wr (s.extract fr s.size)
      rw [rest_list s fr] at hin
      have z1 : (fr : Int) ≤ (s.size : Int) := by omega
      have hown2 := hown.alloc (.cells #[.string (s.extract fr s.size)] 9)
      go_wp2_with (at_builtin; refine wpList_appendS rfl _ _ rfl w.heap.size _ _ rfl hown2 _ _ _ _ rfl rfl hin (by simp; omega) (by simp; omega) ?_; intro v2 w2 hown3 hgrow3 _)
      go_ret
      refine ⟨v2, rfl, ?_, OwnS.grown (hb.alloc hbs _) (by simp; omega) hown2 hgrow3⟩
      have h := HE.out
      rw [HS.out] at h
      rw [← h]
      exact hown3
end Go.Proofs.YtnibecboimgljaaDoor
