/-
  The plain laws of records: what is written is read as it was, what is read is written as it was, a byte that is another is told. No program is in sight here.
-/
import Derived.Test.YtfcdnjbahghllaaDec
import Derived.Test.YtfcdnjbahghllaaEnc
import Derived.Test.YtfcdnjbahghllaaCrcLaw
namespace Go.Proofs.Ytfcdnjbahghllaa

theorem valB_from (r : List UInt8) : ∀ v : Nat, r.foldl (fun v b => v * 256 + b.toNat) v = v * 256 ^ r.length + valB r := by
  induction r with
  | nil => intro v; simp [valB]
  | cons b r ih =>
    intro v
    have h0 := ih b.toNat
    have h1 := ih (v * 256 + b.toNat)
    have e : valB (b :: r) = b.toNat * 256 ^ r.length + valB r := by simp only [valB, List.foldl_cons, Nat.zero_mul, Nat.zero_add]; exact h0
    simp only [List.foldl_cons, List.length_cons]
    rw [h1, e, Nat.pow_succ, Nat.add_mul, Nat.add_assoc, Nat.mul_assoc, Nat.mul_comm 256]
theorem valB_cons (b : UInt8) (r : List UInt8) : valB (b :: r) = b.toNat * 256 ^ r.length + valB r := by
  have := valB_from r b.toNat
  simp only [valB, List.foldl_cons, Nat.zero_mul, Nat.zero_add]
  exact this
theorem beB_mod (n : Nat) : ∀ a v : Nat, beB (a * 256 ^ n + v) n = beB v n := by
  induction n with
  | zero => intro a v; rfl
  | succ n ih =>
    intro a v
    have hp : 0 < 256 ^ n := Nat.pos_of_ne_zero (by simp)
    have e : a * 256 ^ (n + 1) + v = (a * 256) * 256 ^ n + v := by rw [Nat.pow_succ, Nat.mul_comm (256 ^ n), Nat.mul_assoc]
    simp only [beB]
    rw [e, ih (a * 256) v]
    congr 1
    rw [Nat.add_comm, Nat.add_mul_div_right _ _ hp]
    apply UInt8.toNat_inj.1
    simp only [UInt8.toNat_ofNat']; omega
theorem beB_valB (x : List UInt8) : beB (valB x) x.length = x := by
  induction x with
  | nil => rfl
  | cons b r ih =>
    have hp : 0 < 256 ^ r.length := Nat.pos_of_ne_zero (by simp)
    rw [valB_cons, List.length_cons, beB, beB_mod, ih, Nat.add_comm, Nat.add_mul_div_right _ _ hp, Nat.div_eq_of_lt (valB_lt r)]
    simp
theorem valB_beB (n : Nat) : ∀ v : Nat, v < 256 ^ n → valB (beB v n) = v := by
  induction n with
  | zero => intro v h; simp at h; subst h; rfl
  | succ n ih =>
    intro v h
    have hp : 0 < 256 ^ n := Nat.pos_of_ne_zero (by simp)
    have hd : v / 256 ^ n < 256 := Nat.div_lt_of_lt_mul (by rw [Nat.mul_comm, Nat.mul_comm, ← Nat.pow_succ]; exact h)
    have e : beB v n = beB (v % 256 ^ n) n := by
      conv => lhs; rw [← Nat.div_add_mod v (256 ^ n), Nat.mul_comm]
      exact beB_mod n _ _
    rw [beB, valB_cons, beB_length, e, ih _ (Nat.mod_lt _ hp), UInt8.toNat_ofNat', Nat.mod_eq_of_lt hd, Nat.mul_comm]
    exact Nat.div_add_mod v (256 ^ n)

theorem take_sl (l : List UInt8) (lo hi : Nat) (h : lo ≤ hi) : l.take lo ++ sl l lo hi = l.take hi := by
  unfold sl
  conv => rhs; rw [← List.take_append_drop lo (l.take hi)]
  rw [List.take_take, Nat.min_eq_left h]
theorem sl_mid (a m r : List UInt8) (lo hi : Nat) (h1 : a.length = lo) (h2 : lo + m.length = hi) : sl (a ++ (m ++ r)) lo hi = m := by
  subst h1; subst h2
  unfold sl
  rw [List.take_append, List.take_of_length_le (by omega), List.drop_append_of_le_length (Nat.le_refl _), List.drop_length, List.nil_append, Nat.add_sub_cancel_left, List.take_left]

/-- the three ways of reading -/
theorem dec_cases (l : List UInt8) : dec l = .none 0 ∨ dec l = .none 100 ∨
    (dec l = decGood l ∧ (bt l 0 = 193 ∨ bt l 0 = 194) ∧ 3 ≤ l.length ∧ decK l ≤ 4096 ∧ decK l + 15 ≤ l.length ∧ valB (sl l (decK l + 11) (decK l + 15)) = crc (l.take (decK l + 11))) := by
  unfold dec
  by_cases c0 : l.length = 0
  · rw [if_pos c0]; exact .inl rfl
  · rw [if_neg c0]
    by_cases c1 : bt l 0 ≠ 193 ∧ bt l 0 ≠ 194
    · rw [if_pos c1]; exact .inr (.inl rfl)
    · rw [if_neg c1]
      by_cases c2 : l.length < 3
      · rw [if_pos c2]; exact .inl rfl
      · rw [if_neg c2]
        by_cases c3 : 4096 < decK l
        · rw [if_pos c3]; exact .inr (.inl rfl)
        · rw [if_neg c3]
          by_cases c4 : l.length < decK l + 15
          · rw [if_pos c4]; exact .inl rfl
          · rw [if_neg c4]
            by_cases c5 : valB (sl l (decK l + 11) (decK l + 15)) ≠ crc (l.take (decK l + 11))
            · rw [if_pos c5]; exact .inr (.inl rfl)
            · rw [if_neg c5]; exact .inr (.inr ⟨rfl, by omega, by omega, by omega, by omega, by simpa using c5⟩)

theorem valB_sl4 (l : List UInt8) (lo : Nat) (h : lo + 4 ≤ l.length) : valB (sl l lo (lo + 4)) < 4294967296 := by
  have := valB_lt (sl l lo (lo + 4))
  rw [sl_length l lo (lo + 4) h, Nat.add_sub_cancel_left] at this
  exact this

/-- what is read is written as it was -/
theorem good_enc (l : List UInt8) (hx : bt l 0 = 193 ∨ bt l 0 = 194) (hk : decK l ≤ 4096) (hs : decK l + 15 ≤ l.length) (hg : valB (sl l (decK l + 11) (decK l + 15)) = crc (l.take (decK l + 11))) :
    encErr (decGood l).seq (decGood l).op (decGood l).no (decGood l).ident.length = 0 ∧ encOf (decGood l).seq (decGood l).op (decGood l).no (decGood l).ident = l.take (decK l + 15) := by
  have h4 : valB (sl l 3 7) < 4294967296 := valB_sl4 l 3 (by omega)
  have h7 : valB (sl l 7 11) < 4294967296 := valB_sl4 l 7 (by omega)
  have hi : (sl l 11 (decK l + 11)).length = decK l := by rw [sl_length l 11 _ (by omega)]; omega
  have he : encErr (decGood l).seq (decGood l).op (decGood l).no (decGood l).ident.length = 0 := by
    unfold encErr decGood
    dsimp only
    rw [if_neg (by omega), if_neg (by omega)]
  refine ⟨he, ?_⟩
  unfold encOf
  rw [if_pos he]
  unfold decGood encAll
  dsimp only
  have hop : (bt l 0 - 192).toNat = (bt l 0).toNat - 192 := by omega
  have h0 : l.take 1 = [UInt8.ofNat (192 + (bt l 0 - 192).toNat)] := by
    have hl : 0 < l.length := by omega
    rw [take_snoc l 0 hl, List.take_zero, List.nil_append]
    congr 1
    apply UInt8.toNat_inj.1
    rw [UInt8.toNat_ofNat', hop]
    have := bt_get l 0 hl
    omega
  have hbody : encBody (Int.toNat ((valB (sl l 3 7) : Nat) : Int)) (bt l 0 - 192).toNat (Int.toNat ((valB (sl l 7 11) : Nat) : Int)) (sl l 11 (decK l + 11)) = l.take (decK l + 11) := by
    unfold encBody
    rw [← h0, hi, Int.toNat_natCast, Int.toNat_natCast]
    have e1 : beB (decK l) 2 = sl l 1 3 := by
      have := beB_valB (sl l 1 3)
      rw [sl_length l 1 3 (by omega)] at this
      exact this
    have e2 : beB (valB (sl l 3 7)) 4 = sl l 3 7 := by
      have := beB_valB (sl l 3 7)
      rw [sl_length l 3 7 (by omega)] at this
      exact this
    have e3 : beB (valB (sl l 7 11)) 4 = sl l 7 11 := by
      have := beB_valB (sl l 7 11)
      rw [sl_length l 7 11 (by omega)] at this
      exact this
    rw [e1, e2, e3, take_sl l 1 3 (by omega), take_sl l 3 7 (by omega), take_sl l 7 11 (by omega), take_sl l 11 _ (by omega)]
  rw [hbody, ← hg]
  have e4 := beB_valB (sl l (decK l + 11) (decK l + 15))
  rw [sl_length l _ _ hs, show decK l + 15 - (decK l + 11) = 4 from by omega] at e4
  rw [e4, take_sl l _ _ (by omega)]


theorem encBody_length (s o n : Nat) (id : List UInt8) : (encBody s o n id).length = id.length + 11 := by simp [encBody, beB_length]; omega
theorem encAll_len (s o n : Nat) (id : List UInt8) : (encAll s o n id).length = id.length + 15 := by
  unfold encAll; rw [List.length_append, encBody_length, beB_length]

/-- what stands where in a record with anything behind it -/
theorem enc_parts (s o n : Nat) (id rest : List UInt8) :
    sl (encAll s o n id ++ rest) 1 3 = beB id.length 2 ∧ sl (encAll s o n id ++ rest) 3 7 = beB s 4 ∧ sl (encAll s o n id ++ rest) 7 11 = beB n 4 ∧
    sl (encAll s o n id ++ rest) 11 (id.length + 11) = id ∧ sl (encAll s o n id ++ rest) (id.length + 11) (id.length + 15) = beB (crc (encBody s o n id)) 4 ∧
    (encAll s o n id ++ rest).take (id.length + 11) = encBody s o n id ∧ bt (encAll s o n id ++ rest) 0 = ((UInt8.ofNat (192 + o)).toNat : Int) := by
  have e : encAll s o n id ++ rest = [UInt8.ofNat (192 + o)] ++ (beB id.length 2 ++ (beB s 4 ++ (beB n 4 ++ (id ++ (beB (crc (encBody s o n id)) 4 ++ rest))))) := by
    simp [encAll, encBody, List.append_assoc]
  refine ⟨?_, ?_, ?_, ?_, ?_, ?_, ?_⟩
  · rw [e]; exact sl_mid _ _ _ 1 3 rfl (by rw [beB_length])
  · rw [e, ← List.append_assoc]; exact sl_mid _ _ _ 3 7 (by simp [beB_length]) (by rw [beB_length])
  · rw [e, ← List.append_assoc, ← List.append_assoc]; exact sl_mid _ _ _ 7 11 (by simp [beB_length]) (by rw [beB_length])
  · rw [e, ← List.append_assoc, ← List.append_assoc, ← List.append_assoc]; exact sl_mid _ _ _ 11 _ (by simp [beB_length]) (by omega)
  · rw [e, ← List.append_assoc, ← List.append_assoc, ← List.append_assoc, ← List.append_assoc]; exact sl_mid _ _ _ _ _ (by simp [beB_length]; omega) (by rw [beB_length])
  · have h := encBody_length s o n id
    unfold encAll
    rw [List.append_assoc, ← h, List.take_left]
  · rw [e]; rw [bt_get _ 0 (by simp)]; rfl

theorem dec_good (l : List UInt8) (hx : bt l 0 = 193 ∨ bt l 0 = 194) (hk : decK l ≤ 4096) (hs : decK l + 15 ≤ l.length) (hg : valB (sl l (decK l + 11) (decK l + 15)) = crc (l.take (decK l + 11))) : dec l = decGood l := by
  unfold dec
  rw [if_neg (by omega), if_neg (by omega), if_neg (by omega), if_neg (by omega), if_neg (by omega), if_neg (by simpa using hg)]

/-- a record that is written is read as it was, whatever stands behind it -/
theorem enc_dec (s o n : Nat) (id rest : List UInt8) (ho : o = 1 ∨ o = 2) (hs : s < 4294967296) (hn : n < 4294967296) (hid : id.length ≤ 4096) :
    dec (encAll s o n id ++ rest) = ⟨s, o, n, id, (id.length + 15 : Nat), 0⟩ := by
  obtain ⟨e1, e2, e3, e4, e5, e6, e7⟩ := enc_parts s o n id rest
  have hk : decK (encAll s o n id ++ rest) = id.length := by unfold decK; rw [e1]; exact valB_beB 2 _ (by omega)
  have hb : bt (encAll s o n id ++ rest) 0 = 192 + (o : Int) := by rw [e7]; rcases ho with rfl | rfl <;> rfl
  have hl : (encAll s o n id ++ rest).length = id.length + 15 + rest.length := by rw [List.length_append, encAll_len]
  have hc := crc_lt (encBody s o n id)
  rw [dec_good _ (by rw [hb]; omega) (by omega) (by omega) (by rw [hk, e5, e6]; exact valB_beB 4 _ hc)]
  unfold decGood
  rw [hk, e2, e3, e4, hb, valB_beB 4 _ hs, valB_beB 4 _ hn]
  congr 1
  omega

/-- of each beginning of it more is awaited -/
theorem enc_cut (s o n : Nat) (id : List UInt8) (ho : o = 1 ∨ o = 2) (hid : id.length ≤ 4096) (k : Nat) (hk : k < id.length + 15) :
    dec ((encAll s o n id).take k) = .none 0 := by
  have hl : ((encAll s o n id).take k).length = k := by rw [List.length_take, encAll_len]; omega
  obtain ⟨e1, _, _, _, _, _, e7⟩ := enc_parts s o n id []
  rw [List.append_nil] at e1 e7
  unfold dec
  by_cases c0 : k = 0
  · rw [if_pos (by omega)]
  · rw [if_neg (by omega)]
    have hb : bt ((encAll s o n id).take k) 0 = 192 + (o : Int) := by
      have : bt ((encAll s o n id).take k) 0 = bt (encAll s o n id) 0 := by
        unfold bt; simp only [List.getD_eq_getElem?_getD]; rw [List.getElem?_take_of_lt (by omega)]
      rw [this, e7]; rcases ho with rfl | rfl <;> rfl
    rw [if_neg (by omega)]
    by_cases c2 : k < 3
    · rw [if_pos (by omega)]
    · rw [if_neg (by omega)]
      have hkk : decK ((encAll s o n id).take k) = id.length := by
        unfold decK
        have : sl ((encAll s o n id).take k) 1 3 = sl (encAll s o n id) 1 3 := by unfold sl; rw [List.take_take, Nat.min_eq_left (by omega)]
        rw [this, e1]; exact valB_beB 2 _ (by omega)
      rw [if_neg (by omega), if_pos (by omega)]

theorem valB_inj (a b : List UInt8) (hl : a.length = b.length) (h : valB a = valB b) : a = b := by
  rw [← beB_valB a, ← beB_valB b, hl, h]

theorem crc_set (m : List UInt8) (i : Nat) (hi : i < m.length) (c : UInt8) (h : crc (m.set i c) = crc m) : c = m[i] := by
  have s1 : m = m.take i ++ m[i] :: m.drop (i + 1) := by rw [← List.drop_eq_getElem_cons hi, List.take_append_drop]
  have s2 : m.set i c = m.take i ++ c :: m.drop (i + 1) := by rw [List.set_eq_take_append_cons_drop, if_pos hi]
  rw [s2] at h
  exact crc_tells _ _ _ _ (h.trans (congrArg crc s1))

/-- a record of which one byte is another isn't read as one of its length -/
theorem enc_tells (s o n : Nat) (id : List UInt8) (at_ : Nat) (c : UInt8) (hat : at_ < id.length + 15) (hc : ¬ (encAll s o n id)[at_]? = some c) :
    ¬ ((dec ((encAll s o n id).set at_ c)).err = 0 ∧ (dec ((encAll s o n id).set at_ c)).n = ((id.length + 15 : Nat) : Int)) := by
  rintro ⟨he, hn⟩
  obtain ⟨_, _, _, _, e5, e6, _⟩ := enc_parts s o n id []
  rw [List.append_nil] at e5 e6
  have hl := encAll_len s o n id
  rcases dec_cases ((encAll s o n id).set at_ c) with h | h | ⟨h, hx, h3, hk, hs, hg⟩
  · rw [h] at hn; simp only [Dec.none] at hn; omega
  · rw [h] at he; simp [Dec.none] at he
  · rw [h] at hn
    have hkk : decK ((encAll s o n id).set at_ c) = id.length := by unfold decGood at hn; dsimp only at hn; omega
    rw [hkk] at hg
    have hlt := crc_lt (encBody s o n id)
    by_cases hc1 : at_ < id.length + 11
    · -- the sum stands as it was: the text is another
      have t1 : sl ((encAll s o n id).set at_ c) (id.length + 11) (id.length + 15) = sl (encAll s o n id) (id.length + 11) (id.length + 15) := by
        unfold sl
        rw [List.take_set, List.drop_set_of_lt hc1]
      have t2 : ((encAll s o n id).set at_ c).take (id.length + 11) = (encBody s o n id).set at_ c := by rw [List.take_set, e6]
      rw [t1, e5, t2, valB_beB 4 _ hlt] at hg
      have hbl : at_ < (encBody s o n id).length := by rw [encBody_length]; exact hc1
      have h2 := crc_set _ at_ hbl c hg.symm
      apply hc
      rw [h2, List.getElem?_eq_getElem (by rw [hl]; exact hat)]
      congr 1
      unfold encAll
      exact List.getElem_append_left hbl
    · -- the text stands as it was: the sum is another
      have t2 : ((encAll s o n id).set at_ c).take (id.length + 11) = encBody s o n id := by
        rw [List.take_set, e6, List.set_eq_of_length_le (by rw [encBody_length]; omega)]
      have t1 : sl ((encAll s o n id).set at_ c) (id.length + 11) (id.length + 15) = (beB (crc (encBody s o n id)) 4).set (at_ - (id.length + 11)) c := by
        unfold encAll sl
        rw [List.set_append_right _ _ (by rw [encBody_length]; omega), encBody_length, List.take_of_length_le (by simp [encBody_length, beB_length])]
        have hb := encBody_length s o n id
        rw [← hb, List.drop_left]
      rw [t1, t2] at hg
      have h3 : valB ((beB (crc (encBody s o n id)) 4).set (at_ - (id.length + 11)) c) = valB (beB (crc (encBody s o n id)) 4) := by rw [hg, valB_beB 4 _ hlt]
      have h4 := valB_inj _ _ (by simp) h3
      apply hc
      have hi : at_ - (id.length + 11) < (beB (crc (encBody s o n id)) 4).length := by rw [beB_length]; omega
      have h5 := congrArg (fun x => x[at_ - (id.length + 11)]?) h4
      simp only [List.getElem?_set_self hi] at h5
      unfold encAll
      rw [List.getElem?_append_right (by rw [encBody_length]; omega), encBody_length, ← h5]
end Go.Proofs.Ytfcdnjbahghllaa
