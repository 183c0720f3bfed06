/- The directives of a message's fields: the program's are the reference's. -/
import Derived.Test.YtcaknaddeblecaaGreatDoorLists
import Derived.Test.YtcaknaddeblecaaGreatDoorEvLm
namespace Go.Proofs.YtcaknaddeblecaaGreatDoor.Fns
open Go Go.RowKit Go.Proofs Go.Proofs.YtcaknaddeblecaaGreatDoor.Ev Go.Proofs.YtcaknaddeblecaaGreatDoor.Pl
set_option linter.unusedVariables false
set_option linter.unusedSimpArgs false
set_option maxRecDepth 100000
set_option maxHeartbeats 4000000

/-- a loop that looks for the first place -/
theorem iter_find {α ρ : Type} {step : (Int × Unit → Option ρ) → Int × Unit → Option ρ} (l : List α) (p : α → Bool) (G : Nat → Option ρ)
    (hs : ∀ (i : Nat) (h : i < l.length) rec, step rec ((i : Int), ()) = bif p l[i] then G i else rec (((i + 1 : Nat) : Int), ())) (he : ∀ rec, step rec ((l.length : Int), ()) = G l.length) (k : Nat) (hk : l.length < k) :
    iter step k ((0 : Int), ()) = G (l.findIdx p) := by
  suffices h : ∀ (k i : Nat), i ≤ l.length → l.length - i < k → iter step k ((i : Int), ()) = G (i + (l.drop i).findIdx p) by
    have := h k 0 (Nat.zero_le _) (by omega)
    rw [Nat.zero_add, List.drop_zero] at this
    exact this
  intro k
  induction k with
  | zero => intro i hi hk; omega
  | succ k ih =>
    intro i hi hk
    simp only [iter]
    by_cases e : i = l.length
    · subst e
      rw [he, List.drop_length, List.findIdx_nil, Nat.add_zero]
    · have hlt : i < l.length := by omega
      rw [hs i hlt, List.drop_eq_getElem_cons hlt, List.findIdx_cons]
      cases p l[i] with
      | true => simp
      | false =>
        simp only [cond_false]
        rw [ih (i + 1) (by omega) (by omega)]
        congr 1; omega

def isEq (b : UInt8) : Bool := decide ((b.toNat : Int) = 61)
def eqAt (p : ByteArray) : Nat := p.data.toList.findIdx isEq
theorem eqAt_le (p : ByteArray) : eqAt p ≤ p.size := by
  rw [size_data]; exact List.findIdx_le_length

theorem isEq_beq (b : UInt8) : ((61 : UInt8) == b) = isEq b := byte_of (p := fun n b => ((61 : UInt8) == b) = decide ((n : Int) = 61)) (by decide +kernel) b

theorem index_eq : ∀ l : List UInt8, Lib.index l [61] = if l.findIdx isEq < l.length then ((l.findIdx isEq : Nat) : Int) else -1
  | [] => rfl
  | b :: l => by
    have ih := index_eq l
    unfold Lib.index
    have hp : ([61] : List UInt8).isPrefixOf (b :: l) = isEq b := by
      rw [← isEq_beq b]
      simp [List.isPrefixOf]
    rw [hp, List.findIdx_cons, ih, List.length_cons]
    cases isEq b with
    | true => simp
    | false =>
      simp only [cond_false, Bool.false_eq_true, if_false]
      generalize l.findIdx isEq = m
      by_cases h : m < l.length
      · have e1 : (if m < l.length then (m : Int) else -1) = (m : Int) := if_pos h
        have e2 : (if m + 1 < l.length + 1 then ((m + 1 : Nat) : Int) else -1) = ((m + 1 : Nat) : Int) := if_pos (by omega)
        rw [e1, e2, if_neg (by rw [beq_iff_eq]; omega)]
        omega
      · have e1 : (if m < l.length then (m : Int) else -1) = -1 := if_neg h
        have e2 : (if m + 1 < l.length + 1 then ((m + 1 : Nat) : Int) else -1) = -1 := if_neg (by omega)
        rw [e1, e2]
        rfl

def nameOf (p : ByteArray) : ByteArray := p.extract 0 (eqAt p)
def restOf (p : ByteArray) : ByteArray := p.extract (eqAt p + 1) p.size

theorem cut_eq (p : ByteArray) (hp : p.size < 4294967281) : ∃ b, semCut p (ByteArray.mk #[61]) = some (nameOf p, restOf p, b) := by
  unfold semCut
  rw [dT hp, cond_true]
  have h1 : (ByteArray.mk #[61]).data.toList = [61] := rfl
  rw [h1]
  unfold Lib.cut
  rw [index_eq]
  have hle : p.data.toList.findIdx isEq ≤ p.data.toList.length := List.findIdx_le_length
  have hb : nameOf p = ⟨(p.data.toList.take (p.data.toList.findIdx isEq)).toArray⟩ := by
    apply bytes_ext
    unfold nameOf eqAt
    rw [ByteArray.data_extract, Array.toList_extract]
    simp [List.extract]
  have ha : restOf p = ⟨(p.data.toList.drop (p.data.toList.findIdx isEq + 1)).toArray⟩ := by
    apply bytes_ext
    unfold restOf eqAt
    rw [ByteArray.data_extract, Array.toList_extract, size_data]
    simp only [List.extract]
    rw [List.take_of_length_le (by rw [List.length_drop]; omega)]
  by_cases h : p.data.toList.findIdx isEq < p.data.toList.length
  · rw [if_pos h, if_pos (by omega), hb, ha]
    exact ⟨true, by simp⟩
  · rw [if_neg h, if_neg (by omega)]
    refine ⟨false, ?_⟩
    have h2 : p.data.toList.findIdx isEq = p.data.toList.length := by omega
    rw [hb, ha, h2, List.take_length, List.drop_eq_nil_of_le (by omega)]

/-- a text without its quotes -/
def unq (t : ByteArray) : ByteArray := bif decide ((2 : Int) ≤ (t.size : Int)) && decide (bt t (0 : Int) = 34) && decide (bt t ((t.size : Int) - 1) = 34) then t.extract (1 : Int).toNat ((t.size : Int) - 1).toNat else t
theorem unq_S (k : Nat) (t : ByteArray) (h : t.size ≤ 2000000) : F182 k t = some (unq t) := by
  unfold F182 unq
  rw [w64 (n := (t.size : Int) - 1) (by omega) (by omega)]
  by_cases h1 : (2 : Int) ≤ (t.size : Int)
  · rw [dT h1, dT (show 0 ≤ (0 : Int) ∧ (0 : Int) < (t.size : Int) by omega), dT (show 0 ≤ (t.size : Int) - 1 ∧ (t.size : Int) - 1 < (t.size : Int) by omega), dT (show 0 ≤ (1 : Int) ∧ (1 : Int) ≤ (t.size : Int) - 1 ∧ (t.size : Int) - 1 ≤ (t.size : Int) by omega)]
    cases decide (bt t (0 : Int) = 34) <;> cases decide (bt t ((t.size : Int) - 1) = 34) <;> rfl
  · rw [dF h1]; rfl

theorem unq_nil : unq (ByteArray.mk #[]) = ByteArray.mk #[] := rfl

/-- the directive that a part is, where it is one -/
def dirOf (p : ByteArray) : List D0 := bif isTok (nameOf p) then [(lower (nameOf p), unq (restOf p))] else []
theorem dirOf_len (p : ByteArray) : (dirOf p).length ≤ 1 := by
  unfold dirOf; cases isTok (nameOf p) <;> simp

theorem trim_size (s : ByteArray) : (trim s).size ≤ s.size := by
  have h1 : ∀ (l cs : List UInt8), (Lib.trimLeftS l cs).length ≤ l.length := by
    intro l cs
    unfold Lib.trimLeftS
    exact (List.dropWhile_suffix _).length_le
  have h2 : ∀ (l cs : List UInt8), (Lib.trimRightS l cs).length ≤ l.length := by
    intro l cs
    unfold Lib.trimRightS
    have := (List.dropWhile_suffix (l := l.reverse) (p := fun b => cs.contains b)).length_le
    simp at this ⊢
    exact this
  unfold trim
  rw [size_data, size_data]
  show (Lib.trimS s.data.toList blanks).length ≤ _
  rw [← trim_comm]
  exact Nat.le_trans (h2 _ _) (h1 _ _)

theorem emits_small (s : ByteArray) : ∀ (cs : List Nat) (f : Nat), (emits s f cs).length ≤ cs.length ∧ ∀ p ∈ emits s f cs, p.size ≤ s.size
  | [], f => ⟨Nat.le_refl _, fun p hp => by cases hp⟩
  | c :: cs, f => by
    obtain ⟨h1, h2⟩ := emits_small s cs (c + 1)
    have h3 := part_len s f c
    unfold emits
    refine ⟨by rw [List.length_append, List.length_cons]; omega, fun p hp => ?_⟩
    rcases List.mem_append.mp hp with hp | hp
    · unfold part at hp
      cases hd : decide (trim (s.extract f c) = ByteArray.mk #[]) with
      | true => rw [hd] at hp; cases hp
      | false =>
        rw [hd] at hp
        have : p = trim (s.extract f c) := by simpa using hp
        rw [this]
        exact Nat.le_trans (trim_size _) (extract_size _ _ _)
    · exact h2 p hp

theorem split_small (s : ByteArray) : (split s).length ≤ s.size + 1 ∧ ∀ p ∈ split s, p.size ≤ s.size := by
  obtain ⟨h1, h2⟩ := emits_small s (cm s 0 false ++ [s.size]) 0
  have h3 := cm_len s s.size 0 false (by omega)
  refine ⟨?_, h2⟩
  rw [List.length_append] at h1
  have : ([s.size] : List Nat).length = 1 := rfl
  unfold split
  omega

/-! ### the values of a field of a long name are no longer than the fields -/
theorem joined_small (name : ByteArray) (hn : 2 ≤ name.size) (l : List D0) : ∀ i, i ≤ l.length → (Lib.join ((valsOf name (l.take i)).map (·.data.toList)) comma.data.toList).length ≤ ((l.map (cost U0)).take i).sum := by
  intro i
  induction i with
  | zero => intro _; simp [valsOf, Lib.join_nil]
  | succ i ih =>
    intro hi
    have h1 := ih (by omega)
    have hi' : i < l.length := hi
    have hs := sum_take_succ (l.map (cost U0)) i (by simpa using hi')
    rw [List.getElem_map, ← getD_lt (z := Z0) hi'] at hs
    rw [vals_take name l i (by omega), hs]
    split
    · next he =>
      have hc : cost U0 (l.getD i Z0) = name.size + (l.getD i Z0).2.size := by rw [field_cost, he]
      have hd : (l.getD i Z0).2.size = (l.getD i Z0).2.data.toList.length := size_data _
      rw [List.map_append, List.map_cons, List.map_nil, join_snoc]
      split
      · omega
      · rw [List.length_append, List.length_append]
        have : comma.data.toList.length = 2 := rfl
        omega
    · omega

def valueOf (name : ByteArray) (l : List D0) : ByteArray := ⟨(Lib.join ((valsOf name l).map (·.data.toList)) comma.data.toList).toArray⟩
theorem value_small (name : ByteArray) (hn : 2 ≤ name.size) (l : List D0) (hc : cost (.slice U0) l ≤ big) : (valueOf name l).size ≤ 1048576 := by
  have hj := joined_small name hn l l.length (Nat.le_refl _)
  rw [List.take_length] at hj
  have ht := sum_take_le (l.map (cost U0)) l.length
  have hc' : l.length + (l.map (cost U0)).sum ≤ 1048576 := hc
  rw [size_data]
  show (Lib.join _ _).length ≤ _
  omega

abbrev nCC : ByteArray := ByteArray.mk #[99, 97, 99, 104, 101, 45, 99, 111, 110, 116, 114, 111, 108]
def dirs (l : List D0) : List D0 := (split (valueOf nCC l)).flatMap dirOf

theorem dirs_len (l : List ByteArray) : (l.flatMap dirOf).length ≤ l.length := by
  induction l with
  | nil => exact Nat.le_refl _
  | cons p l ih =>
    have := dirOf_len p
    rw [List.flatMap_cons, List.length_append, List.length_cons]; omega

theorem dirs_S (k : Nat) (hk : fuel < k) (l : List D0) (hc : cost (.slice U0) l ≤ big) : F159 k l = some (dirs l) := by
  have hk' : 2097152 < k := hk
  have hv := value_small nCC (by decide) l hc
  unfold F159
  rw [getS k hk l _ hc, Option.bind_some]
  show (F180 k (valueOf nCC l)).bind _ = _
  rw [split_S k hk _ (by omega), Option.bind_some]
  obtain ⟨s1, s2⟩ := split_small (valueOf nCC l)
  have sd := dirs_len (split (valueOf nCC l))
  unfold dirs
  generalize split (valueOf nCC l) = ps at s1 s2 sd
  have hp : ∀ p ∈ ps, p.size ≤ 1048576 := fun p h => by have := s2 p h; omega
  refine (iter_lists ps dirOf 4294967296 (fun o => some o) (fun i hi x rec hx => ?_) (fun x rec hx => ?_) k _ (by rw [List.length_nil]; omega) (by omega)).trans ?_
  · have hpi := hp _ (List.getElem_mem hi)
    simp only [Int.toNat_natCast]
    rw [dT (show (i : Int) < (ps.length : Int) by omega), dT (show 0 ≤ (i : Int) ∧ (i : Int) < (ps.length : Int) by omega), w64 (n := (i : Int) + 1) (by omega) (by omega)]
    simp only [cond_true, getD_lt hi]
    generalize ps[i] = p at hpi hx
    have hxl : x.length < 8589934591 := by omega
    refine (iter_find p.data.toList isEq (fun j => rec ((i : Int) + 1, x ++ (bif isTok (p.extract 0 j) then [(lower (p.extract 0 j), bif decide (j < p.size) then unq (p.extract (j + 1) p.size) else ByteArray.mk #[])] else []), ())) (fun j hj rec' => ?_) (fun rec' => ?_) k (by rw [← size_data]; omega)).trans ?_
    · have hsz := size_data p
      have he := extract_size p 0 j
      have he2 := extract_size p (j + 1) p.size
      simp only [Int.toNat_natCast]
      rw [bt_at p j hj, dT (show (j : Int) < (p.size : Int) by omega), dT (show 0 ≤ (j : Int) ∧ (j : Int) < (p.size : Int) by omega), dT (show 0 ≤ (0 : Int) ∧ (0 : Int) ≤ (j : Int) ∧ (j : Int) ≤ (p.size : Int) by omega), w64 (n := (j : Int) + 1) (by omega) (by omega), dT (show 0 ≤ (j : Int) + 1 ∧ (j : Int) + 1 ≤ (p.size : Int) ∧ (p.size : Int) ≤ (p.size : Int) by omega),
        show ((j : Int) + 1).toNat = j + 1 by omega, show (0 : Int).toNat = 0 from rfl, tokText_S k _ (by omega) (by omega), lower_S k _ (by omega) (by omega), unq_S k _ (by omega)]
      show cond (!isEq p.data.toList[j]) _ _ = _
      rw [dT (show j < p.size by omega)]
      have hm : ∀ u : D0, decide (x.length + ([u] : List D0).length < most) = true := fun u => dT (by show x.length + 1 < 8589934592; omega)
      simp only [cond_true, Option.bind_some, hm]
      cases isEq p.data.toList[j] with
      | false => simp only [Bool.not_false, cond_true, cond_false, Int.natCast_add, Int.cast_ofNat_Int]
      | true =>
        simp only [Bool.not_true, cond_true, cond_false]
        cases isTok (p.extract 0 j) <;> simp only [Bool.not_true, Bool.not_false, cond_true, cond_false, List.append_nil]
    · have hsz := size_data p
      have he := extract_size p 0 p.size
      rw [← hsz]
      simp only [Int.toNat_natCast]
      rw [dF (show ¬ (p.size : Int) < (p.size : Int) by omega), dT (show 0 ≤ (0 : Int) ∧ (0 : Int) ≤ (p.size : Int) ∧ (p.size : Int) ≤ (p.size : Int) by omega), show (0 : Int).toNat = 0 from rfl, tokText_S k _ (by omega) (by omega), lower_S k _ (by omega) (by omega), dF (show ¬ p.size < p.size by omega)]
      have hm : ∀ u : D0, decide (x.length + ([u] : List D0).length < most) = true := fun u => dT (by show x.length + 1 < 8589934592; omega)
      simp only [cond_true, cond_false, Option.bind_some, hm]
      cases isTok (p.extract 0 p.size) <;> simp only [Bool.not_true, Bool.not_false, cond_true, cond_false, List.append_nil] <;> rfl
    · have hval : (bif decide (eqAt p < p.size) then unq (p.extract (eqAt p + 1) p.size) else ByteArray.mk #[]) = unq (restOf p) := by
        unfold restOf
        by_cases h : eqAt p < p.size
        · rw [dT h, cond_true]
        · rw [dF h, cond_false]
          have : p.extract (eqAt p + 1) p.size = ByteArray.mk #[] := by
            apply bytes_ext
            rw [ByteArray.data_extract, Array.toList_extract]
            simp only [List.extract]
            rw [List.drop_eq_nil_of_le (by rw [← size_data]; omega)]
            simp
          rw [this, unq_nil]
      have hval' : (bif decide (List.findIdx isEq p.data.toList < p.size) then unq (p.extract (List.findIdx isEq p.data.toList + 1) p.size) else ByteArray.mk #[]) = unq (restOf p) := hval
      simp only [hval', Int.natCast_add, Int.cast_ofNat_Int]
      rfl
  · simp only
    rw [dF (show ¬ (ps.length : Int) < (ps.length : Int) by omega)]
    rfl
  · rfl

theorem dirs_I (k : Nat) (hk : fuel < k) (l : List D0) (hc : cost (.slice U0) l ≤ big) : F164 k l = some (dirs l) := by
  have hk' : 2097152 < k := hk
  have hv := value_small nCC (by decide) l hc
  unfold F164
  rw [getI k hk l _ hc, Option.bind_some]
  show (F185 k (valueOf nCC l)).bind _ = _
  rw [split_I k hk _ (by omega), Option.bind_some]
  obtain ⟨s1, s2⟩ := split_small (valueOf nCC l)
  have sd := dirs_len (split (valueOf nCC l))
  unfold dirs
  generalize split (valueOf nCC l) = ps at s1 s2 sd
  have hp : ∀ p ∈ ps, p.size ≤ 1048576 := fun p h => by have := s2 p h; omega
  refine (iter_lists ps dirOf 4294967296 (fun o => some o) (fun i hi x rec hx => ?_) (fun x rec hx => ?_) k _ (by rw [List.length_nil]; omega) (by omega)).trans ?_
  · have hpi := hp _ (List.getElem_mem hi)
    simp only [Int.toNat_natCast]
    rw [dT (show (i : Int) < (ps.length : Int) by omega), dT (show 0 ≤ (i : Int) ∧ (i : Int) < (ps.length : Int) by omega), w64 (n := (i : Int) + 1) (by omega) (by omega)]
    simp only [cond_true, getD_lt hi]
    generalize ps[i] = p at hpi hx
    have hxl : x.length < 8589934591 := by omega
    obtain ⟨b, hcut⟩ := cut_eq p (by omega)
    have e1 : (nameOf p).size ≤ p.size := extract_size _ _ _
    have e2 : (restOf p).size ≤ p.size := extract_size _ _ _
    rw [hcut]
    simp only [Option.bind_some]
    rw [tokText_I k _ (by omega) (by omega)]
    have hm : ∀ u : D0, decide (x.length + ([u] : List D0).length < most) = true := fun u => dT (by show x.length + 1 < 8589934592; omega)
    simp only [Option.bind_some, lower_I k (nameOf p) (by omega) (by omega), hm, cond_true]
    unfold dirOf unq
    rw [w64 (n := ((restOf p).size : Int) - 1) (by omega) (by omega)]
    cases isTok (nameOf p) with
    | false => simp only [Bool.not_false, cond_true, cond_false, List.append_nil, Int.natCast_add, Int.cast_ofNat_Int]
    | true =>
      simp only [Bool.not_true, cond_true, cond_false, Int.natCast_add, Int.cast_ofNat_Int]
      by_cases h1 : (2 : Int) ≤ ((restOf p).size : Int)
      · rw [dT h1, dT (show 0 ≤ (0 : Int) ∧ (0 : Int) < ((restOf p).size : Int) by omega), dT (show 0 ≤ ((restOf p).size : Int) - 1 ∧ ((restOf p).size : Int) - 1 < ((restOf p).size : Int) by omega), dT (show 0 ≤ (1 : Int) ∧ (1 : Int) ≤ ((restOf p).size : Int) - 1 ∧ ((restOf p).size : Int) - 1 ≤ ((restOf p).size : Int) by omega)]
        cases decide (bt (restOf p) (0 : Int) = 34) <;> cases decide (bt (restOf p) (((restOf p).size : Int) - 1) = 34) <;> rfl
      · rw [dF h1]; rfl
  · simp only
    rw [dF (show ¬ (ps.length : Int) < (ps.length : Int) by omega)]
    rfl
  · rfl

/-! ### a directive of a name -/
def ccHas (l : List D0) (name : ByteArray) : Bool := !(dirs l).all fun d => !decide (d.1 = name)

theorem dirs_count (l : List D0) (hc : cost (.slice U0) l ≤ big) : (dirs l).length ≤ 1048577 := by
  have hv := value_small nCC (by decide) l hc
  obtain ⟨s1, s2⟩ := split_small (valueOf nCC l)
  have sd := dirs_len (split (valueOf nCC l))
  unfold dirs
  omega

theorem cc_S (k : Nat) (hk : fuel < k) (l : List D0) (name : ByteArray) (hc : cost (.slice U0) l ≤ big) : F129 k l name = some (ccHas l name) := by
  have hk' : 2097152 < k := hk
  have hn := dirs_count l hc
  unfold F129 ccHas
  rw [dirs_S k hk l hc, Option.bind_some]
  generalize dirs l = ds at hn
  refine (iter_list ds (fun d => !decide (d.1 = name)) (some true) (some false) (fun i hi rec => ?_) (fun rec => ?_) k (by omega)).trans ?_
  · simp only [Int.toNat_natCast]
    rw [dT (show (i : Int) < (ds.length : Int) by omega), dT (show 0 ≤ (i : Int) ∧ (i : Int) < (ds.length : Int) by omega), w64 (n := (i : Int) + 1) (by omega) (by omega)]
    simp only [cond_true, getD_lt hi]
    cases decide (ds[i].1 = name) <;> rfl
  · simp only
    rw [dF (show ¬ (ds.length : Int) < (ds.length : Int) by omega)]; rfl
  · cases ds.all fun d => !decide (d.1 = name) <;> rfl

theorem cc_I (k : Nat) (hk : fuel < k) (l : List D0) (name : ByteArray) (hc : cost (.slice U0) l ≤ big) : F135 k l name = some (ccHas l name) := by
  have hk' : 2097152 < k := hk
  have hn := dirs_count l hc
  unfold F135 ccHas
  rw [dirs_I k hk l hc, Option.bind_some]
  generalize dirs l = ds at hn
  refine (iter_list ds (fun d => !decide (d.1 = name)) (some true) (some false) (fun i hi rec => ?_) (fun rec => ?_) k (by omega)).trans ?_
  · simp only [Int.toNat_natCast]
    rw [dT (show (i : Int) < (ds.length : Int) by omega), dT (show 0 ≤ (i : Int) ∧ (i : Int) < (ds.length : Int) by omega), w64 (n := (i : Int) + 1) (by omega) (by omega), dT (show (0 : Int) ≤ (i : Int) by omega)]
    simp only [cond_true, getD_lt hi]
    cases decide (ds[i].1 = name) <;> rfl
  · simp only
    rw [dF (show ¬ (ds.length : Int) < (ds.length : Int) by omega)]; rfl
  · cases ds.all fun d => !decide (d.1 = name) <;> rfl
end Go.Proofs.YtcaknaddeblecaaGreatDoor.Fns
