/- The program's ReadDec and the reference's read the same numerals. -/
import Derived.Test.YthbdlnhcioolgaaDoorShowEvt
import Derived.Lib.AtoiAllCases
namespace Go.Proofs.YthbdlnhcioolgaaDoor.Fns
open Go Go.RowKit Go.Proofs Go.Proofs.YthbdlnhcioolgaaDoor.Ev Go.Proofs.YthbdlnhcioolgaaDoor.Pl
set_option linter.unusedVariables false
set_option linter.unusedSimpArgs false
set_option maxRecDepth 100000

/-! ### a numeral is read back -/
theorem parse_append : ∀ (xs ys : List UInt8) (acc a : Nat), Lib.parseUint10 acc xs = .ok a → Lib.parseUint10 acc (xs ++ ys) = Lib.parseUint10 a ys
  | [], ys, acc, a, h => by simp only [Lib.parseUint10] at h; injection h with h; subst h; rfl
  | c :: r, ys, acc, a, h => by
    simp only [Lib.parseUint10, List.cons_append] at h ⊢
    split at h
    · next h1 =>
      rw [if_pos h1]
      split at h
      · cases h
      · next h2 =>
        rw [if_neg h2]
        split at h
        · cases h
        · next h3 => rw [if_neg h3]; exact parse_append r ys _ _ h
    · cases h

theorem digit_byte (d : Nat) (h : d < 10) : (UInt8.ofNat (48 + d)).toNat = 48 + d := by
  rw [UInt8.toNat_ofNat']; omega

theorem parse_digits (u : Nat) (h : u < 18446744073709551616) : Lib.parseUint10 0 (Lib.decDigits u) = .ok u := by
  induction u using Nat.strongRecOn with
  | _ u ih =>
    by_cases h1 : u < 10
    · rw [Lib.decDigits, dif_pos h1]
      simp only [Lib.parseUint10, digit_byte u h1]
      rw [if_pos (by omega), if_neg (by omega), if_neg (by omega)]
      congr 1; omega
    · rw [Lib.decDigits, dif_neg h1, parse_append _ _ _ _ (ih (u / 10) (by omega) (by omega))]
      simp only [Lib.parseUint10, digit_byte (u % 10) (Nat.mod_lt _ (by decide))]
      rw [if_pos (by omega), if_neg (by omega), if_neg (by omega)]
      congr 1; omega

theorem digits_ne (u : Nat) : Lib.decDigits u ≠ [] := by
  intro h
  have := Lib.decDigits_length u
  have := Lib.nDigits_pos u
  rw [h] at *
  simp at *
  omega

theorem digits_all (u : Nat) : ∀ b ∈ Lib.decDigits u, 48 ≤ b.toNat ∧ b.toNat ≤ 57 := by
  induction u using Nat.strongRecOn with
  | _ u ih =>
    by_cases h1 : u < 10
    · rw [Lib.decDigits, dif_pos h1]
      intro b hb
      simp only [List.mem_singleton] at hb
      subst hb
      rw [digit_byte u h1]; omega
    · rw [Lib.decDigits, dif_neg h1]
      intro b hb
      rcases List.mem_append.mp hb with hb | hb
      · exact ih _ (by omega) b hb
      · simp only [List.mem_singleton] at hb
        subst hb
        rw [digit_byte (u % 10) (Nat.mod_lt _ (by decide))]; omega

theorem atoi_itoa (n : Int) (h0 : -9223372036854775808 ≤ n) (h1 : n ≤ 9223372036854775807) : Lib.atoiAll (Lib.itoa n) = .ok n := by
  unfold Lib.itoa
  split
  · next hn =>
    rw [Lib.atoiAll]
    simp only [show (45 : UInt8).toNat = 45 from rfl, or_true, if_true, Lib.parseMag, if_neg (digits_ne _), parse_digits n.natAbs (by omega)]
    rw [if_neg (by simp), if_neg (by omega)]
    congr 1; omega
  · next hn =>
    cases hd : Lib.decDigits n.toNat with
    | nil => exact absurd hd (digits_ne _)
    | cons c r =>
      have hc := digits_all n.toNat c (by rw [hd]; simp)
      rw [Lib.atoiAll]
      rw [if_neg (by omega), ← hd]
      simp only [Lib.parseMag, if_neg (digits_ne _), parse_digits n.toNat (by omega)]
      rw [if_neg (by omega), if_neg (by omega), if_neg (by omega)]
      congr 1; omega

/-! ### the program's ReadDec -/
theorem readI_ok (k : Nat) (s : ByteArray) (n : Int) (h0 : -999999999 ≤ n) (h1 : n ≤ 999999999) (h : s.data.toList = Lib.itoa n) (hs : s.size ≤ 281474976710656) : F43 k s = some (n, true) := by
  have ha : semAtoi s = some (n, false) := by
    unfold semAtoi
    rw [dT (show s.size ≤ 281474976710656 by omega), h, atoi_itoa n (by omega) (by omega)]
    rfl
  have hd : F23 k n = some s := by
    unfold F23
    rw [itoa_eq n (by omega) (by omega), ← h]
    cases s; rfl
  unfold F43 F36
  rw [ha]
  simp only [Option.bind_some, hd, decide_true, Bool.not_true, Bool.not_false, cond_false, dT h0, dT h1, cond_true]

theorem readI_no (k : Nat) (s : ByteArray) (hs : s.size ≤ 281474976710656) (hno : ∀ n : Int, -999999999 ≤ n → n ≤ 999999999 → s.data.toList ≠ Lib.itoa n) : F43 k s = some (0, false) := by
  unfold F43
  unfold semAtoi
  rw [dT (show s.size ≤ 281474976710656 by omega), cond_true]
  cases h : Lib.atoiAll s.data.toList with
  | ok v =>
    obtain ⟨b0, b1⟩ := Lib.atoiAll_bounds h
    simp only [Option.bind_some, Bool.not_false, Bool.not_true, cond_false]
    unfold F23
    rw [itoa_eq v b0 b1]
    simp only [Option.bind_some]
    by_cases he : (⟨(Lib.itoa v).toArray⟩ : ByteArray) = s
    · rw [dT he]
      simp only [Bool.not_true, cond_false]
      unfold F36
      by_cases h0 : -999999999 ≤ v
      · rw [dT h0]
        by_cases h1 : v ≤ 999999999
        · exact absurd (by rw [← he]) (hno v h0 h1)
        · rw [dF h1]; rfl
      · rw [dF h0]; rfl
    · rw [dF he]; rfl
  | range => rfl
  | _ => rfl

/-! ### the reference's ReadDec -/
/-- what its loop reckons: a number, and how many digits it has met -/
def dstep (x : Nat × Nat) (b : UInt8) : Nat × Nat := if 48 ≤ b.toNat ∧ b.toNat ≤ 57 then (x.1 * 10 + (b.toNat - 48), x.2 + 1) else x

theorem dstep_lt : ∀ (l : List UInt8), (l.foldl dstep (0, 0)).1 < 10 ^ (l.foldl dstep (0, 0)).2 ∧ (l.foldl dstep (0, 0)).2 ≤ l.length := by
  intro l
  suffices h : ∀ (l : List UInt8) (x : Nat × Nat), x.1 < 10 ^ x.2 → (l.foldl dstep x).1 < 10 ^ (l.foldl dstep x).2 ∧ (l.foldl dstep x).2 ≤ x.2 + l.length by
    have := h l (0, 0) (by decide)
    simpa using this
  intro l
  induction l with
  | nil => intro x hx; exact ⟨hx, by simp⟩
  | cons b l ih =>
    intro x hx
    rw [List.foldl_cons]
    have h1 : (dstep x b).1 < 10 ^ (dstep x b).2 ∧ (dstep x b).2 ≤ x.2 + 1 := by
      unfold dstep
      split
      · simp only [Nat.pow_succ]; omega
      · exact ⟨hx, by omega⟩
    obtain ⟨h2, h3⟩ := ih _ h1.1
    exact ⟨h2, by rw [List.length_cons]; omega⟩

theorem dstep_digits (u : Nat) : (Lib.decDigits u).foldl dstep (0, 0) = (u, Lib.nDigits u) := by
  induction u using Nat.strongRecOn with
  | _ u ih =>
    by_cases h1 : u < 10
    · rw [Lib.decDigits, dif_pos h1, Lib.nDigits_small h1]
      simp only [List.foldl_cons, List.foldl_nil, dstep, digit_byte u h1]
      rw [if_pos (by omega)]
      simp
    · rw [Lib.decDigits, dif_neg h1, List.foldl_append, ih (u / 10) (by omega), Lib.nDigits_big h1]
      simp only [List.foldl_cons, List.foldl_nil, dstep, digit_byte (u % 10) (Nat.mod_lt _ (by decide))]
      rw [if_pos (by omega)]
      simp; omega

theorem dstep_itoa (n : Int) : (Lib.itoa n).foldl dstep (0, 0) = (n.natAbs, Lib.nDigits n.natAbs) := by
  unfold Lib.itoa
  split
  · rw [List.foldl_cons, show dstep (0, 0) 45 = (0, 0) from rfl, dstep_digits]
  · next h => rw [dstep_digits, show n.toNat = n.natAbs by omega]

theorem bt_get (s : ByteArray) (i : Nat) (h : i < s.data.toList.length) : bt s (i : Int) = ((s.data.toList[i]).toNat : Int) := by
  unfold bt
  rw [Int.toNat_natCast]
  have h' : i < s.data.size := by simpa using h
  show ((s.data[i]!).toNat : Int) = _
  rw [getElem!_pos s.data i h']
  simp

/-- behind the loop -/
def dend (k : Nat) (s : ByteArray) (n c : Int) : Option (Int × Bool) :=
  bif decide ((9 : Int) < c) then some ((0 : Int), false) else bif decide ((10 : Int) < (s.size : Int)) then some ((0 : Int), false) else (F20 k n).bind fun r => bif !decide (r = s) then some ((0 : Int), false) else some (n, true)
def dfin (k : Nat) (s : ByteArray) (n c : Int) : Option (Int × Bool) :=
  bif decide ((0 : Int) < (s.size : Int)) then (bif decide (0 ≤ (0 : Int) ∧ (0 : Int) < (s.size : Int)) then (bif decide (bt s (0 : Int) = (45 : Int)) then dend k s (wrap64 (-n)) c else dend k s n c) else none) else dend k s n c

theorem readS_eq (k : Nat) (hk : fuel < k) (s : ByteArray) : F39 k s = dfin k s ((s.data.toList.take 11).foldl dstep (0, 0)).1 ((s.data.toList.take 11).foldl dstep (0, 0)).2 := by
  have hk' : 2097152 < k := hk
  have hsz : s.size = s.data.toList.length := size_data s
  have hr : F39 k s = iter (σ := Int × Int × Int × Unit) (fun rec4 x3 => (bif (decide (x3.2.2.1 < (s.size : Int))) then (bif (decide (x3.2.2.1 < (11 : Int))) then (bif (decide (0 ≤ x3.2.2.1 ∧ x3.2.2.1 < (s.size : Int))) then (bif (decide ((48 : Int) ≤ (bt s x3.2.2.1))) then (bif (decide (0 ≤ x3.2.2.1 ∧ x3.2.2.1 < (s.size : Int))) then (bif (decide ((bt s x3.2.2.1) ≤ (57 : Int))) then (bif (decide (0 ≤ x3.2.2.1 ∧ x3.2.2.1 < (s.size : Int))) then (rec4 ((wrap64 ((wrap64 (x3.1 * (10 : Int))) + (wrap64 ((wr .u8 ((bt s x3.2.2.1) - (48 : Int))))))), (wrap64 (x3.2.1 + (1 : Int))), (wrap64 (x3.2.2.1 + (1 : Int))), ())) else none) else (rec4 (x3.1, x3.2.1, (wrap64 (x3.2.2.1 + (1 : Int))), ()))) else none) else (rec4 (x3.1, x3.2.1, (wrap64 (x3.2.2.1 + (1 : Int))), ()))) else none) else dfin k s x3.1 x3.2.1) else dfin k s x3.1 x3.2.1)) k ((0 : Int), (0 : Int), (0 : Int), ()) := rfl
  rw [hr]
  refine iter_any (fun i x => x.1 = (((s.data.toList.take i).foldl dstep (0, 0)).1 : Int) ∧ x.2.1 = (((s.data.toList.take i).foldl dstep (0, 0)).2 : Int) ∧ x.2.2.1 = (i : Int)) _ (min s.data.toList.length 11) ?_ ?_ k 0 _ ⟨by simp, by simp, rfl⟩ (Nat.zero_le _) (by omega)
  · rintro i ⟨xn, xc, xi, _⟩ rec ⟨h1, h2, h3⟩ hi hrec
    simp only at h1 h2 h3
    subst h1; subst h2; subst h3
    have hil : i < s.data.toList.length := by omega
    have e1 : decide ((i : Int) < (s.size : Int)) = true := dT (by omega)
    have e2 : decide ((i : Int) < 11) = true := dT (by omega)
    have e3 : decide (0 ≤ (i : Int) ∧ (i : Int) < (s.size : Int)) = true := dT (by omega)
    have hb := bt_get s i hil
    obtain ⟨b1, b2⟩ := dstep_lt (s.data.toList.take i)
    have hlen : (s.data.toList.take i).length = i := by rw [List.length_take]; omega
    rw [hlen] at b2
    have hst : (s.data.toList.take (i + 1)).foldl dstep (0, 0) = dstep ((s.data.toList.take i).foldl dstep (0, 0)) s.data.toList[i] := by
      rw [List.take_add_one, List.getElem?_eq_getElem hil, Option.toList_some, List.foldl_append]; rfl
    have hp : 10 ^ ((s.data.toList.take i).foldl dstep (0, 0)).2 ≤ 100000000000 := Nat.le_trans (Nat.pow_le_pow_right (by decide) (show _ ≤ 11 by omega)) (by decide)
    have hw : wrap64 ((i : Int) + 1) = ((i + 1 : Nat) : Int) := by rw [w64 (by omega) (by omega)]; simp
    generalize (s.data.toList.take i).foldl dstep (0, 0) = x at *
    have hbyte := (s.data.toList[i]).toNat_lt
    generalize hbg : s.data.toList[i] = b at *
    simp only [e1, e2, e3, cond_true, hb, hw]
    by_cases g1 : 48 ≤ b.toNat
    · by_cases g2 : b.toNat ≤ 57
      · have q1 : wr .u8 ((b.toNat : Int) - 48) = ((b.toNat - 48 : Nat) : Int) := by
          have : ((b.toNat : Int) - 48) = ((b.toNat - 48 : Nat) : Int) := by omega
          rw [this]
          have h10 : b.toNat - 48 < 10 := by omega
          revert h10
          generalize b.toNat - 48 = d
          intro h10
          have : ∀ d : Fin 10, wr .u8 ((d.val : Nat) : Int) = (d.val : Int) := by decide +kernel
          exact this ⟨d, h10⟩
        rw [dT (show (48 : Int) ≤ (b.toNat : Int) by omega), dT (show (b.toNat : Int) ≤ 57 by omega), q1]
        simp only [cond_true]
        rw [w64 (n := ((x.1 : Nat) : Int) * 10) (by omega) (by omega), w64 (n := ((b.toNat - 48 : Nat) : Int)) (by omega) (by omega), w64 (by omega) (by omega), w64 (n := ((x.2 : Nat) : Int) + 1) (by omega) (by omega)]
        refine hrec _ ⟨?_, ?_, rfl⟩
        · rw [hst]; unfold dstep; rw [if_pos ⟨g1, g2⟩]; simp
        · rw [hst]; unfold dstep; rw [if_pos ⟨g1, g2⟩]; simp
      · rw [dT (show (48 : Int) ≤ (b.toNat : Int) by omega), dF (show ¬ (b.toNat : Int) ≤ 57 by omega)]
        simp only [cond_true, cond_false]
        refine hrec _ ⟨?_, ?_, rfl⟩
        · rw [hst]; unfold dstep; rw [if_neg (by omega)]
        · rw [hst]; unfold dstep; rw [if_neg (by omega)]
    · rw [dF (show ¬ (48 : Int) ≤ (b.toNat : Int) by omega)]
      simp only [cond_false]
      refine hrec _ ⟨?_, ?_, rfl⟩
      · rw [hst]; unfold dstep; rw [if_neg (by omega)]
      · rw [hst]; unfold dstep; rw [if_neg (by omega)]
  · rintro ⟨xn, xc, xi, _⟩ rec ⟨h1, h2, h3⟩
    simp only at h1 h2 h3
    have ht : s.data.toList.take (min s.data.toList.length 11) = s.data.toList.take 11 := by
      rw [Nat.min_comm]; exact List.take_eq_take_min.symm
    rw [ht] at h1 h2
    subst h1; subst h2; subst h3
    simp only
    by_cases hc : s.data.toList.length ≤ 11
    · rw [dF (show ¬ ((min s.data.toList.length 11 : Nat) : Int) < (s.size : Int) by omega)]; rfl
    · rw [dT (show ((min s.data.toList.length 11 : Nat) : Int) < (s.size : Int) by omega), dF (show ¬ ((min s.data.toList.length 11 : Nat) : Int) < 11 by omega)]; rfl

theorem readS_ok (k : Nat) (hk : fuel < k) (s : ByteArray) (n : Int) (h0 : -999999999 ≤ n) (h1 : n ≤ 999999999) (h : s.data.toList = Lib.itoa n) : F39 k s = some (n, true) := by
  have hsz : s.size = s.data.toList.length := size_data s
  have hd9 : Lib.nDigits n.natAbs ≤ 9 := by
    by_cases hz : Lib.nDigits n.natAbs ≤ 9
    · exact hz
    · exfalso
      -- the least number of ten digits
      have : ∀ u : Nat, u < 1000000000 → Lib.nDigits u ≤ 9 := by
        intro u hu
        have h9 : ∀ (c u : Nat), u < 10 ^ (c + 1) → Lib.nDigits u ≤ c + 1 := by
          intro c
          induction c with
          | zero => intro u hu; rw [Lib.nDigits_small (by simpa using hu)]; omega
          | succ c ih =>
            intro u hu
            by_cases hs : u < 10
            · rw [Lib.nDigits_small hs]; omega
            · rw [Lib.nDigits_big hs]
              have := ih (u / 10) (by rw [Nat.pow_succ] at hu; omega)
              omega
        exact h9 8 u (by omega)
      exact hz (this _ (by omega))
  have hlen : s.data.toList.length ≤ 10 := by
    rw [h]; unfold Lib.itoa
    split
    · rw [List.length_cons, Lib.decDigits_length]; omega
    · next hn => rw [Lib.decDigits_length, show n.toNat = n.natAbs by omega]; omega
  have hpos : 0 < s.data.toList.length := by
    rw [h]; unfold Lib.itoa
    split
    · simp
    · exact List.length_pos_iff.mpr (digits_ne _)
  rw [readS_eq k hk, List.take_of_length_le (by omega), h, dstep_itoa]
  have hfirst : bt s 0 = 45 ↔ n < 0 := by
    have hb := bt_get s 0 hpos
    rw [show ((0 : Nat) : Int) = 0 from rfl] at hb
    rw [hb]
    have hg : s.data.toList[0] = (Lib.itoa n)[0]'(by rw [← h]; exact hpos) := by simp only [h]
    rw [hg]
    unfold Lib.itoa
    constructor
    · intro e
      by_cases hn : n < 0
      · exact hn
      · simp only [if_neg hn] at e
        have := digits_all n.toNat _ (List.getElem_mem (by
          have := Lib.decDigits_length n.toNat
          have := Lib.nDigits_pos n.toNat
          omega : 0 < (Lib.decDigits n.toNat).length))
        omega
    · intro hn
      simp only [if_pos hn, List.getElem_cons_zero]
      rfl
  have hdec : F20 k n = some s := by
    rw [dec_eq k hk n (by omega) (by omega), ← h]
  have hend : dend k s n (Lib.nDigits n.natAbs : Int) = some (n, true) := by
    unfold dend
    rw [dF (show ¬ (9 : Int) < (Lib.nDigits n.natAbs : Int) by omega), dF (show ¬ (10 : Int) < (s.size : Int) by omega), hdec]
    simp only [cond_false, Option.bind_some, decide_true, Bool.not_true]
  unfold dfin
  rw [dT (show (0 : Int) < (s.size : Int) by omega), dT (show 0 ≤ (0 : Int) ∧ (0 : Int) < (s.size : Int) by omega)]
  simp only [cond_true]
  by_cases hn : n < 0
  · rw [dT (hfirst.mpr hn), cond_true, show wrap64 (-((n.natAbs : Nat) : Int)) = n by rw [w64 (by omega) (by omega)]; omega]
    exact hend
  · rw [dF (fun e => hn (hfirst.mp e)), cond_false, show ((n.natAbs : Nat) : Int) = n by omega]
    exact hend

theorem readS_no (k : Nat) (hk : fuel < k) (s : ByteArray) (hno : ∀ n : Int, -999999999 ≤ n → n ≤ 999999999 → s.data.toList ≠ Lib.itoa n) : F39 k s = some (0, false) := by
  rw [readS_eq k hk]
  obtain ⟨b1, b2⟩ := dstep_lt (s.data.toList.take 11)
  have hl : (s.data.toList.take 11).length ≤ 11 := by rw [List.length_take]; omega
  generalize (s.data.toList.take 11).foldl dstep (0, 0) = x at *
  have hend : ∀ n : Int, n.natAbs = x.1 → dend k s n x.2 = some (0, false) := by
    intro n hn
    unfold dend
    by_cases hc : (9 : Int) < (x.2 : Int)
    · rw [dT hc]; rfl
    · rw [dF hc]
      by_cases hz : (10 : Int) < (s.size : Int)
      · rw [dT hz]; rfl
      · have hp : 10 ^ x.2 ≤ 1000000000 := Nat.le_trans (Nat.pow_le_pow_right (by decide) (show x.2 ≤ 9 by omega)) (by decide)
        rw [dF hz, dec_eq k hk n (by omega) (by omega)]
        simp only [cond_false, Option.bind_some]
        rw [dF (fun e => hno n (by omega) (by omega) (by rw [← e]))]
        rfl
  have hp : 10 ^ x.2 ≤ 100000000000 := Nat.le_trans (Nat.pow_le_pow_right (by decide) (show x.2 ≤ 11 by omega)) (by decide)
  unfold dfin
  cases h0 : decide ((0 : Int) < (s.size : Int)) with
  | false => exact hend _ (by omega)
  | true =>
    have h0' := of_decide_eq_true h0
    rw [dT (show 0 ≤ (0 : Int) ∧ (0 : Int) < (s.size : Int) by omega)]
    simp only [cond_true]
    cases decide (bt s (0 : Int) = (45 : Int)) with
    | true => exact hend _ (by rw [w64 (by omega) (by omega)]; omega)
    | false => exact hend _ (by omega)

/-- both read alike -/
theorem read_same (k : Nat) (hk : fuel < k) (s : ByteArray) (hs : s.size ≤ 281474976710656) : ∃ r, F39 k s = some r ∧ F43 k s = some r ∧ (r.2 = true → -999999999 ≤ r.1 ∧ r.1 ≤ 999999999) := by
  by_cases h : ∃ n : Int, -999999999 ≤ n ∧ n ≤ 999999999 ∧ s.data.toList = Lib.itoa n
  · obtain ⟨n, h0, h1, hn⟩ := h
    exact ⟨(n, true), readS_ok k hk s n h0 h1 hn, readI_ok k s n h0 h1 hn hs, fun _ => ⟨h0, h1⟩⟩
  · have hno : ∀ n : Int, -999999999 ≤ n → n ≤ 999999999 → s.data.toList ≠ Lib.itoa n := fun n h0 h1 e => h ⟨n, h0, h1, e⟩
    exact ⟨(0, false), readS_no k hk s hno, readI_no k s hs hno, fun q => by cases q⟩
end Go.Proofs.YthbdlnhcioolgaaDoor.Fns
