/- The program's ShowCache and the reference's tell the same text. -/
import Derived.Test.YtcaknaddeblecaaGreatDoorCaches
import Derived.Test.YtcaknaddeblecaaGreatDoorJoins
namespace Go.Proofs.YtcaknaddeblecaaGreatDoor.ShowCache
open Go Go.RowKit Go.Proofs Go.Proofs.YtcaknaddeblecaaGreatDoor.Ev Go.Proofs.YtcaknaddeblecaaGreatDoor.Pl Go.Proofs.YtcaknaddeblecaaGreatDoor.Fns
set_option linter.unusedVariables false
set_option linter.unusedSimpArgs false
set_option maxRecDepth 100000

theorem ringLen {k : Nat} {a : D4} (h : shardOk k a = true) : a.2.2.1.length ≤ 8 := by
  unfold shardOk at h
  simp only [Bool.and_eq_true, Bool.or_eq_true, Bool.not_eq_true', decide_eq_true_eq, decide_eq_false_iff_not] at h
  obtain ⟨⟨⟨⟨⟨h1, h2⟩, h3⟩, h4⟩, h5⟩, h6⟩ := h
  omega

theorem facts {k : Nat} {c : D6} (h : cacheOk k c = true) : c.1.length ≤ 4 ∧ ∀ i, i < c.1.length → (c.1.getD i Z4).2.2.1.length ≤ 8 := by
  unfold cacheOk at h
  rw [Bool.and_eq_true, Bool.and_eq_true, Bool.and_eq_true] at h
  obtain ⟨⟨h1, h2⟩, h3, h4⟩ := h
  have h2 := of_decide_eq_true h2
  refine ⟨by omega, fun i hi => ?_⟩
  have := List.all_eq_true.mp h3 i (List.mem_range.mpr hi)
  unfold homeOk at this
  rw [Bool.and_eq_true] at this
  exact ringLen this.1

def vtext (k : Nat) (n : Int) : ByteArray := (F37 k n).getD (ByteArray.mk #[])
theorem vtext_eq (k : Nat) (hk : fuel < k) (n : Int) : F37 k n = some (vtext k n) ∧ F43 k n = some (vtext k n) ∧ (vtext k n).size ≤ 8 := by
  obtain ⟨w, h1, h2⟩ := var_some k hk n
  have : vtext k n = w := by unfold vtext; rw [h1]; rfl
  rw [var_same, this]
  exact ⟨h1, h1, h2⟩

def stext (k : Nat) (a : D2) : ByteArray := (F9 k a).getD (ByteArray.mk #[])
theorem stext_eq (k : Nat) (hk : fuel < k) (a : D2) (ok : Ty.Ok U2 a) (hc : cost U2 a ≤ big) : F9 k a = some (stext k a) ∧ F11 k a = some (stext k a) ∧ (stext k a).size ≤ 67108864 := by
  obtain ⟨w, h1, h2, h3⟩ := showS_same k hk a ok hc
  have : stext k a = w := by unfold stext; rw [h1]; rfl
  rw [this]
  exact ⟨h1, h2, h3⟩

def item (k : Nat) (s : D3) : List ByteArray := [vtext k (bif s.2 then 1 else 0), texted k (stext k s.1)]
def shardWords (k : Nat) (a : D4) : List ByteArray := [vtext k a.1, vtext k a.2.1, vtext k a.2.2.2, vtext k (a.2.2.1.length : Int)] ++ a.2.2.1.flatMap (item k)
def genWords (k : Nat) (g : D5) : List ByteArray := [texted k g.1, vtext k g.2]
def shardTxt (k : Nat) (a : D4) : ByteArray := catB (shardWords k a)
def cacheTxt (k : Nat) (c : D6) : ByteArray := catB (([vtext k (c.1.length : Int)] ++ c.1.flatMap fun a => [shardTxt k a]) ++ [vtext k (c.2.length : Int)] ++ c.2.flatMap (genWords k))

theorem item_eq (k : Nat) (hk : fuel < k) (s : D3) (ok : Ty.Ok U2 s.1) (hc : cost U2 s.1 ≤ big) : (catB (item k s)).size ≤ 67108880 ∧
    F9 k s.1 = some (stext k s.1) ∧ F11 k s.1 = some (stext k s.1) ∧ F36 k (stext k s.1) = some (texted k (stext k s.1)) ∧ F42 k (stext k s.1) = some (texted k (stext k s.1)) := by
  obtain ⟨h1, h2, h3⟩ := stext_eq k hk s.1 ok hc
  obtain ⟨h4, h5, h6⟩ := texted_eq k hk (stext k s.1) (by omega)
  have h7 := (vtext_eq k hk (bif s.2 then 1 else 0)).2.2
  refine ⟨?_, h1, h2, h4, h5⟩
  rw [catB_size]
  simp only [item, List.map_cons, List.map_nil, List.sum_cons, List.sum_nil]
  omega

theorem flat_len (k : Nat) (l : List D3) : (l.flatMap (item k)).length = 2 * l.length := by
  induction l with
  | nil => rfl
  | cons s l ih => rw [List.flatMap_cons, List.length_append, ih]; simp [item]; omega
theorem gens_len (k : Nat) (l : List D5) : (l.flatMap (genWords k)).length = 2 * l.length := by
  induction l with
  | nil => rfl
  | cons s l ih => rw [List.flatMap_cons, List.length_append, ih]; simp [genWords]; omega

theorem ring_ok {a : D4} (ok : Ty.Ok U4 a) (hc : cost U4 a ≤ big) : ∀ s ∈ a.2.2.1, Ty.Ok U2 s.1 ∧ cost U2 s.1 ≤ big := by
  intro s hs
  rw [shard_cost] at hc
  have h1 : cost U3 s ≤ cost (.slice U3) a.2.2.1 := cost_mem hs
  have h2 : cost U3 s = cost U2 s.1 := by simp only [cost]; omega
  have hc' : cost (.slice U3) a.2.2.1 ≤ 1048576 := hc
  exact ⟨(ok.2.2.1.2 s hs).1, by show _ ≤ 1048576; omega⟩

theorem shard_small (k : Nat) (hk : fuel < k) (a : D4) (ok : Ty.Ok U4 a) (hc : cost U4 a ≤ big) (hr : a.2.2.1.length ≤ 8) : (shardTxt k a).size ≤ 536871072 := by
  unfold shardTxt shardWords
  rw [catB_append, ByteArray.size_append, catB_flatMap, catB_size, catB_size, List.map_map]
  have h1 := sum_const (fun s => (catB (item k s)).size) 67108880 a.2.2.1 fun s hs => (item_eq k hk s (ring_ok ok hc s hs).1 (ring_ok ok hc s hs).2).1
  have h2 := (vtext_eq k hk a.1).2.2
  have h3 := (vtext_eq k hk a.2.1).2.2
  have h4 := (vtext_eq k hk a.2.2.2).2.2
  have h5 := (vtext_eq k hk (a.2.2.1.length : Int)).2.2
  have h6 : ((a.2.2.1.map ((fun x : ByteArray => x.size) ∘ fun s => catB (item k s)))).sum = (a.2.2.1.map fun s => (catB (item k s)).size).sum := rfl
  rw [h6]
  simp only [List.map_cons, List.map_nil, List.sum_cons, List.sum_nil]
  omega

theorem shard_text (k : Nat) (hk : fuel < k) (a : D4) (ok : Ty.Ok U4 a) (hc : cost U4 a ≤ big) (hr : a.2.2.1.length ≤ 8) : F61 k a = some (shardTxt k a) := by
  have hk' : 2097152 < k := hk
  unfold F61
  simp only [(vtext_eq k hk a.1).2.1, (vtext_eq k hk a.2.1).2.1, (vtext_eq k hk a.2.2.2).2.1, (vtext_eq k hk (a.2.2.1.length : Int)).2.1, (vtext_eq k hk 1).2.1, (vtext_eq k hk 0).2.1, Option.bind_some]
  refine iter_lists a.2.2.1 (item k) 1000 (fun ws => (semJoin ws (ByteArray.mk #[])).bind fun r => some r) (fun i hi x rec hx => ?_) (fun x rec hx => ?_) k _ (by rw [flat_len]; simp; omega) (by omega) |>.trans ?_
  · obtain ⟨o1, o2⟩ := ring_ok ok hc _ (List.getElem_mem hi)
    obtain ⟨e0, e1, e2, e3, e4⟩ := item_eq k hk a.2.2.1[i] o1 o2
    simp only [Int.toNat_natCast]
    rw [dT (show (i : Int) < (a.2.2.1.length : Int) by omega), dT (show 0 ≤ (i : Int) ∧ (i : Int) < (a.2.2.1.length : Int) by omega), w64 (n := (i : Int) + 1) (by omega) (by omega)]
    simp only [cond_true, getD_lt hi, e2, e4, Option.bind_some]
    have hm : ∀ u v : ByteArray, decide (x.length + ([u, v] : List ByteArray).length < most) = true := fun u v => dT (by
      have : x.length + 2 ≤ 1000 := hx
      show x.length + 2 < 8589934592
      omega)
    simp only [hm, cond_true]
    unfold item
    cases a.2.2.1[i].2 <;> simp only [cond_true, cond_false, Int.natCast_add, Int.cast_ofNat_Int]
  · simp only
    rw [dF (show ¬ (a.2.2.1.length : Int) < (a.2.2.1.length : Int) by omega)]
    rfl
  · have hs := shard_small k hk a ok hc hr
    have e : joinB ([vtext k a.1, vtext k a.2.1, vtext k a.2.2.2, vtext k (a.2.2.1.length : Int)] ++ a.2.2.1.flatMap (item k)) (ByteArray.mk #[]) = shardTxt k a := rfl
    rw [semJoin_some (by rw [List.length_append, flat_len]; simp; omega) (by rw [e]; omega), e]
    rfl

theorem same (k : Nat) (hk : fuel < k) (c : D6) (ok : Ty.Ok U6 c) (hc : cost U6 c ≤ big) : ∃ w, F19 k c = some w ∧ F21 k c = some w := by
  have hk' : 2097152 < k := hk
  have hc' : cost U6 c ≤ 1048576 := hc
  have hcc := cache_cost (c := c)
  unfold F19 F21
  rw [cache_S k hk c hc, cache_I k hk c hc]
  simp only [Option.bind_some]
  cases hs : cacheOk k c with
  | false => exact ⟨_, rfl, rfl⟩
  | true =>
  simp only [Bool.not_true, cond_false, (vtext_eq k hk (c.1.length : Int)).1, (vtext_eq k hk (c.1.length : Int)).2.1, (vtext_eq k hk (c.2.length : Int)).1, (vtext_eq k hk (c.2.length : Int)).2.1, (vtext_eq k hk 1).1, (vtext_eq k hk 0).1, Option.bind_some]
  obtain ⟨f1, f2⟩ := facts hs
  have hgl : c.2.length ≤ cost (.slice U5) c.2 := cost_len (e := U5) c.2
  have hgc : cost (.slice U5) c.2 = c.2.length + (c.2.map (cost U5)).sum := rfl
  have hsh : ∀ i (hi : i < c.1.length), Ty.Ok U4 c.1[i] ∧ cost U4 c.1[i] ≤ big ∧ c.1[i].2.2.1.length ≤ 8 := by
    intro i hi
    have h1 := f2 i hi
    rw [getD_lt hi] at h1
    have h2 : cost U4 c.1[i] ≤ cost (.slice U4) c.1 := cost_mem (List.getElem_mem hi)
    exact ⟨ok.1.2 _ (List.getElem_mem hi), by show _ ≤ 1048576; omega, h1⟩
  have hshm : ∀ a ∈ c.1, (shardTxt k a).size ≤ 536871072 := by
    intro a ha
    obtain ⟨i, hi, rfl⟩ := List.mem_iff_getElem.mp ha
    obtain ⟨o1, o2, o3⟩ := hsh i hi
    exact shard_small k hk _ o1 o2 o3
  have hgen : ∀ g ∈ c.2, g.1.size ≤ 1048576 := by
    intro g hg
    have h1 : cost U5 g ≤ cost (.slice U5) c.2 := cost_mem hg
    rw [gen_cost] at h1
    omega
  have hgen2 : ∀ g ∈ c.2, F36 k g.1 = some (texted k g.1) ∧ F42 k g.1 = some (texted k g.1) ∧ (catB (genWords k g)).size ≤ 16 + cost U5 g := by
    intro g hg
    obtain ⟨h1, h2, h3⟩ := texted_eq k hk g.1 (by have := hgen g hg; omega)
    refine ⟨h1, h2, ?_⟩
    have h4 := (vtext_eq k hk g.2).2.2
    rw [catB_size, gen_cost]
    simp only [genWords, List.map_cons, List.map_nil, List.sum_cons, List.sum_nil]
    omega
  have hsum1 := sum_const (fun a => (shardTxt k a).size) 536871072 c.1 hshm
  have hsum2 : (c.2.map fun g => (catB (genWords k g)).size).sum ≤ 16 * c.2.length + (c.2.map (cost U5)).sum := sum_cost (e := U5) (fun g => (catB (genWords k g)).size) 16 c.2 fun g hg => (hgen2 g hg).2.2
  have hv1 := (vtext_eq k hk (c.1.length : Int)).2.2
  have hv2 := (vtext_eq k hk (c.2.length : Int)).2.2
  have hT : cacheTxt k c = (c.2.foldl (fun x g => x ++ catB (genWords k g)) (c.1.foldl (fun x a => x ++ shardTxt k a) (vtext k (c.1.length : Int)) ++ vtext k (c.2.length : Int))) := by
    unfold cacheTxt
    rw [foldl_cat, foldl_cat, catB_append, catB_append, catB_append, catB_one, catB_one, catB_flatMap, catB_flatMap]
    simp only [catB_one]
  have hTs : (cacheTxt k c).size ≤ 4294967296 := by
    rw [hT, foldl_size, ByteArray.size_append, foldl_size]
    omega
  have hlen1 : ∀ l : List D4, (l.flatMap fun a => [shardTxt k a]).length = l.length := by
    intro l
    induction l with
    | nil => rfl
    | cons a l ih => rw [List.flatMap_cons, List.length_append, ih]; simp; omega
  refine ⟨bif decide ((20000 : Int) < ((cacheTxt k c).size : Int)) then ByteArray.mk #[] else cacheTxt k c, ?_, ?_⟩
  · refine (iter_text c.1 (shardTxt k) 4294967296 (fun x => iter (σ := ByteArray × Int × Unit) (fun rec53 x52 => (bif (decide (x52.2.1 < (c.2.length : Int))) then (bif (decide (0 ≤ x52.2.1 ∧ x52.2.1 < (c.2.length : Int))) then ((F36 k (c.2.getD x52.2.1.toNat Z5).1).bind fun r54 => (bif (decide (x52.1.size + r54.size < mostText)) then (bif (decide (0 ≤ x52.2.1 ∧ x52.2.1 < (c.2.length : Int))) then ((F37 k (c.2.getD x52.2.1.toNat Z5).2).bind fun r55 => (bif (decide ((x52.1 ++ r54).size + r55.size < mostText)) then (rec53 (((x52.1 ++ r54) ++ r55), (wrap64 (x52.2.1 + (1 : Int))), ())) else none)) else none) else none)) else none) else (bif (decide ((20000 : Int) < (x52.1.size : Int))) then some (ByteArray.mk #[]) else some x52.1))) k ((x ++ vtext k (c.2.length : Int)), (0 : Int), ())) (fun i hi x rec hx => ?_) (fun x rec hx => ?_) k _ (by omega) (by omega)).trans ?_
    · obtain ⟨o1, o2, o3⟩ := hsh i hi
      have hsz := shard_small k hk _ o1 o2 o3
      have hd : shardTxt k c.1[i] = catB [vtext k c.1[i].1, vtext k c.1[i].2.1, vtext k c.1[i].2.2.2, vtext k (c.1[i].2.2.1.length : Int)] ++ catB (c.1[i].2.2.1.flatMap (item k)) := by
        unfold shardTxt shardWords; rw [catB_append]
      have w1 := (vtext_eq k hk c.1[i].1).2.2
      have w2 := (vtext_eq k hk c.1[i].2.1).2.2
      have w3 := (vtext_eq k hk c.1[i].2.2.2).2.2
      have w4 := (vtext_eq k hk (c.1[i].2.2.1.length : Int)).2.2
      have hring := sum_const (fun s => (catB (item k s)).size) 67108880 c.1[i].2.2.1 fun s hs => (item_eq k hk s (ring_ok o1 o2 s hs).1 (ring_ok o1 o2 s hs).2).1
      simp only [Int.toNat_natCast]
      rw [dT (show (i : Int) < (c.1.length : Int) by omega), dT (show 0 ≤ (i : Int) ∧ (i : Int) < (c.1.length : Int) by omega), w64 (n := (i : Int) + 1) (by omega) (by omega)]
      simp only [cond_true, getD_lt hi, (vtext_eq k hk c.1[i].1).1, (vtext_eq k hk c.1[i].2.1).1, (vtext_eq k hk c.1[i].2.2.2).1, (vtext_eq k hk (c.1[i].2.2.1.length : Int)).1, Option.bind_some]
      rw [fits (by omega), fits (by simp only [ByteArray.size_append]; omega), fits (by simp only [ByteArray.size_append]; omega), fits (by simp only [ByteArray.size_append]; omega)]
      simp only [cond_true]
      refine (iter_text c.1[i].2.2.1 (fun s => catB (item k s)) 17179869184 (fun x => rec (x, (i : Int) + 1, ())) (fun j hj x' rec' hx' => ?_) (fun x' rec' hx' => ?_) k _ (by simp only [ByteArray.size_append]; omega) (by omega)).trans ?_
      · obtain ⟨p1, p2⟩ := ring_ok o1 o2 _ (List.getElem_mem hj)
        obtain ⟨e0, e1, e2, e3, e4⟩ := item_eq k hk c.1[i].2.2.1[j] p1 p2
        have e5 : catB (item k c.1[i].2.2.1[j]) = vtext k (bif c.1[i].2.2.1[j].2 then 1 else 0) ++ texted k (stext k c.1[i].2.2.1[j].1) := by unfold item; rw [catB_cons, catB_one]
        simp only [Int.toNat_natCast]
        rw [dT (show (j : Int) < (c.1[i].2.2.1.length : Int) by omega), dT (show 0 ≤ (j : Int) ∧ (j : Int) < (c.1[i].2.2.1.length : Int) by omega), w64 (n := (j : Int) + 1) (by omega) (by omega)]
        simp only [cond_true, getD_lt hj, e1, e3, Option.bind_some]
        rw [e5] at hx' ⊢
        simp only [ByteArray.size_append] at hx'
        revert hx'
        cases c.1[i].2.2.1[j].2 with
        | true =>
          intro hx'
          simp only [cond_true] at hx' ⊢
          rw [fits (by omega), fits (by simp only [ByteArray.size_append]; omega)]
          simp only [cond_true, ba_assoc, Int.natCast_add, Int.cast_ofNat_Int]
        | false =>
          intro hx'
          simp only [cond_false] at hx' ⊢
          rw [fits (by omega), fits (by simp only [ByteArray.size_append]; omega)]
          simp only [cond_true, ba_assoc, Int.natCast_add, Int.cast_ofNat_Int]
      · simp only
        rw [dF (show ¬ (c.1[i].2.2.1.length : Int) < (c.1[i].2.2.1.length : Int) by omega)]
        rfl
      · rw [foldl_cat, hd, catB_flatMap, catB_cons, catB_cons, catB_cons, catB_one]
        simp only [ba_assoc, Int.natCast_add, Int.cast_ofNat_Int]
    · simp only
      rw [dF (show ¬ (c.1.length : Int) < (c.1.length : Int) by omega), fits (by omega)]
      rfl
    · refine (iter_text c.2 (fun g => catB (genWords k g)) 17179869184 (fun x => (bif (decide ((20000 : Int) < (x.size : Int))) then some (ByteArray.mk #[]) else some x)) (fun i hi x rec hx => ?_) (fun x rec hx => ?_) k _ (by rw [ByteArray.size_append, foldl_size]; omega) (by omega)).trans ?_
      · obtain ⟨g1, g2, g3⟩ := hgen2 _ (List.getElem_mem hi)
        have e5 : catB (genWords k c.2[i]) = texted k c.2[i].1 ++ vtext k c.2[i].2 := by unfold genWords; rw [catB_cons, catB_one]
        rw [e5] at hx ⊢
        simp only [ByteArray.size_append] at hx
        simp only [Int.toNat_natCast]
        rw [dT (show (i : Int) < (c.2.length : Int) by omega), dT (show 0 ≤ (i : Int) ∧ (i : Int) < (c.2.length : Int) by omega), w64 (n := (i : Int) + 1) (by omega) (by omega)]
        simp only [cond_true, getD_lt hi, g1, (vtext_eq k hk c.2[i].2).1, Option.bind_some]
        rw [fits (by omega), fits (by simp only [ByteArray.size_append]; omega)]
        simp only [cond_true, ba_assoc, Int.natCast_add, Int.cast_ofNat_Int]
      · simp only
        rw [dF (show ¬ (c.2.length : Int) < (c.2.length : Int) by omega)]
        rfl
      · rw [← hT]
        cases decide ((20000 : Int) < ((cacheTxt k c).size : Int)) <;> rfl
  · refine (iter_lists c.1 (fun a => [shardTxt k a]) 1000 (fun ws => iter (σ := Int × List ByteArray × Unit) (fun rec15 x14 => (bif (decide (x14.1 < (c.2.length : Int))) then (bif (decide (0 ≤ x14.1 ∧ x14.1 < (c.2.length : Int))) then ((F42 k (c.2.getD x14.1.toNat Z5).1).bind fun r16 => ((F43 k (c.2.getD x14.1.toNat Z5).2).bind fun r17 => (bif (decide (x14.2.1.length + ([r16, r17] : List ByteArray).length < most)) then (rec15 ((wrap64 (x14.1 + (1 : Int))), (x14.2.1 ++ ([r16, r17] : List ByteArray)), ())) else none))) else none) else ((semJoin x14.2.1 (ByteArray.mk #[])).bind fun r18 => (bif (decide ((20000 : Int) < (r18.size : Int))) then some (ByteArray.mk #[]) else some r18)))) k ((0 : Int), (ws ++ [vtext k (c.2.length : Int)]), ())) (fun i hi x rec hx => ?_) (fun x rec hx => ?_) k _ (by rw [hlen1]; show 1 + _ ≤ _; omega) (by omega)).trans ?_
    · obtain ⟨o1, o2, o3⟩ := hsh i hi
      simp only [Int.toNat_natCast]
      have hm : ∀ u : ByteArray, decide (x.length + ([u] : List ByteArray).length < most) = true := fun u => dT (by
        have : x.length + 1 ≤ 1000 := hx
        show x.length + 1 < 8589934592
        omega)
      rw [dT (show (i : Int) < (c.1.length : Int) by omega), dT (show 0 ≤ (i : Int) ∧ (i : Int) < (c.1.length : Int) by omega), w64 (n := (i : Int) + 1) (by omega) (by omega)]
      simp only [cond_true, getD_lt hi, shard_text k hk _ o1 o2 o3, Option.bind_some, hm, Int.natCast_add, Int.cast_ofNat_Int]
    · simp only
      have hm : ∀ u : ByteArray, decide (x.length + ([u] : List ByteArray).length < most) = true := fun u => dT (by
        show x.length + 1 < 8589934592
        omega)
      rw [dF (show ¬ (c.1.length : Int) < (c.1.length : Int) by omega)]
      simp only [cond_false, hm, cond_true]
    · refine (iter_lists c.2 (genWords k) 4000000 (fun ws => (semJoin ws (ByteArray.mk #[])).bind fun r18 => (bif (decide ((20000 : Int) < (r18.size : Int))) then some (ByteArray.mk #[]) else some r18)) (fun i hi x rec hx => ?_) (fun x rec hx => ?_) k _ (by rw [gens_len, List.length_append, List.length_append, hlen1]; show 1 + _ + 1 + _ ≤ _; omega) (by omega)).trans ?_
      · obtain ⟨g1, g2, g3⟩ := hgen2 _ (List.getElem_mem hi)
        simp only [Int.toNat_natCast]
        have hm : ∀ u v : ByteArray, decide (x.length + ([u, v] : List ByteArray).length < most) = true := fun u v => dT (by
          have : x.length + 2 ≤ 4000000 := hx
          show x.length + 2 < 8589934592
          omega)
        rw [dT (show (i : Int) < (c.2.length : Int) by omega), dT (show 0 ≤ (i : Int) ∧ (i : Int) < (c.2.length : Int) by omega), w64 (n := (i : Int) + 1) (by omega) (by omega)]
        simp only [cond_true, getD_lt hi, g2, (vtext_eq k hk c.2[i].2).2.1, Option.bind_some, hm, Int.natCast_add, Int.cast_ofNat_Int]
        rfl
      · simp only
        rw [dF (show ¬ (c.2.length : Int) < (c.2.length : Int) by omega)]
        rfl
      · have e : joinB (([vtext k (c.1.length : Int)] ++ c.1.flatMap fun a => [shardTxt k a]) ++ [vtext k (c.2.length : Int)] ++ c.2.flatMap (genWords k)) (ByteArray.mk #[]) = cacheTxt k c := rfl
        rw [semJoin_some (by rw [List.length_append, gens_len, List.length_append, List.length_append, hlen1]; show 1 + _ + 1 + _ ≤ _; omega) (by rw [e]; omega), e, Option.bind_some]
        cases decide ((20000 : Int) < ((cacheTxt k c).size : Int)) <;> rfl
end Go.Proofs.YtcaknaddeblecaaGreatDoor.ShowCache
