/- Texts that are joined: a loop that appends, and strings.Join of a list. -/
import Derived.Test.YtcaknaddeblecaaGreatDoorTxt
namespace Go.Proofs.YtcaknaddeblecaaGreatDoor.Fns
open Go Go.RowKit Go.Proofs Go.Proofs.YtcaknaddeblecaaGreatDoor.Ev Go.Proofs.YtcaknaddeblecaaGreatDoor.Pl
set_option linter.unusedVariables false
set_option linter.unusedSimpArgs false
set_option maxRecDepth 100000

def joinB (ws : List ByteArray) (sep : ByteArray) : ByteArray := ⟨(Lib.join (ws.map (·.data.toList)) sep.data.toList).toArray⟩

theorem joinB_data (ws : List ByteArray) (sep : ByteArray) : (joinB ws sep).data.toList = Lib.join (ws.map (·.data.toList)) sep.data.toList := rfl

theorem semJoin_some {ws : List ByteArray} {sep : ByteArray} (hl : ws.length ≤ 140737488355328) (hb : (joinB ws sep).size ≤ 140737488355328) : semJoin ws sep = some (joinB ws sep) :=
  join_to rfl hl hb

theorem joinB_nil (sep : ByteArray) : joinB [] sep = ByteArray.mk #[] := rfl

theorem joinB_snoc (ws : List ByteArray) (sep w : ByteArray) : joinB (ws ++ [w]) sep = (bif ws.isEmpty then joinB ws sep else joinB ws sep ++ sep) ++ w := by
  apply bytes_ext
  cases ws with
  | nil =>
    rw [append_data]
    simp only [List.isEmpty_nil, cond_true, joinB_data, List.nil_append, List.map_cons, List.map_nil, Lib.join_one, Lib.join_nil]
  | cons x ws =>
    rw [append_data]
    simp only [List.isEmpty_cons, cond_false]
    rw [append_data, joinB_data, joinB_data, List.cons_append, List.map_cons, List.map_cons, Lib.join_cons, Lib.join_cons, List.map_append, List.map_cons, List.map_nil]
    unfold Lib.joinTail
    simp [List.append_assoc]

theorem joinB_size (sep : ByteArray) : ∀ (ws : List ByteArray), (joinB ws sep).size ≤ (ws.map fun w => w.size + sep.size).sum
  | [] => Nat.zero_le _
  | x :: ws => by
    rw [size_data, joinB_data, List.map_cons, Lib.join_cons, List.length_append, Lib.joinTail_length, List.map_cons, List.sum_cons, ← size_data, ← size_data]
    have : ∀ ws : List ByteArray, Lib.lens (ws.map (·.data.toList)) + sep.size * (ws.map (·.data.toList)).length = (ws.map fun w => w.size + sep.size).sum := by
      intro ws
      induction ws with
      | nil => rfl
      | cons y ws ih =>
        simp only [List.map_cons, List.sum_cons, List.length_cons, Lib.lens, Nat.mul_succ] at ih ⊢
        rw [← size_data]
        omega
    have := this ws
    omega

def dtext (n : Int) : ByteArray := ⟨(Lib.itoa n).toArray⟩
theorem dtext_eq (k : Nat) (hk : fuel < k) (n : Int) (h : -9223372036854775808 ≤ n ∧ n ≤ 9223372036854775807) : F49 k n = some (dtext n) ∧ F52 k n = some (dtext n) ∧ (dtext n).size ≤ 21 := by
  refine ⟨dec_eq k hk n h.1 h.2, ?_, itoa_len n h.1 h.2⟩
  unfold F52
  rw [itoa_eq n h.1 h.2]; rfl

/-- a loop that adds to a list for each element -/
theorem iter_lists {α β ρ : Type} {step : (Int × List β × Unit → Option ρ) → Int × List β × Unit → Option ρ} (l : List α) (g : α → List β) (M : Nat) (fin : List β → Option ρ)
    (hs : ∀ (i : Nat) (h : i < l.length) x rec, x.length + (g l[i]).length ≤ M → step rec ((i : Int), x, ()) = rec (((i + 1 : Nat) : Int), x ++ g l[i], ()))
    (he : ∀ x rec, x.length ≤ M → step rec ((l.length : Int), x, ()) = fin x) (k : Nat) (x : List β) (hM : x.length + (l.flatMap g).length ≤ M) (hk : l.length < k) :
    iter step k ((0 : Int), x, ()) = fin (x ++ l.flatMap g) := by
  suffices h : ∀ (k i : Nat) (x : List β), i ≤ l.length → l.length - i < k → x.length + ((l.drop i).flatMap g).length ≤ M → iter step k ((i : Int), x, ()) = fin (x ++ (l.drop i).flatMap g) from h k 0 x (Nat.zero_le _) (by omega) hM
  intro k
  induction k with
  | zero => intro i x hi hk; omega
  | succ k ih =>
    intro i x hi hk hM
    simp only [iter]
    by_cases e : i = l.length
    · subst e
      rw [List.drop_length] at hM ⊢
      rw [he x _ (by simpa using hM)]
      simp
    · have hlt : i < l.length := by omega
      rw [List.drop_eq_getElem_cons hlt, List.flatMap_cons, List.length_append] at hM
      rw [hs i hlt x _ (by omega), List.drop_eq_getElem_cons hlt, List.flatMap_cons, ← List.append_assoc]
      exact ih (i + 1) _ (by omega) (by omega) (by rw [List.length_append]; omega)

/-! ### one after another -/
def catB (ws : List ByteArray) : ByteArray := joinB ws (ByteArray.mk #[])

theorem join_flat : ∀ xs : List (List UInt8), Lib.join xs [] = xs.flatten
  | [] => rfl
  | x :: r => by
    rw [Lib.join_cons, Lib.joinTail, List.flatten_cons]
    congr 2
    simp

theorem catB_data (ws : List ByteArray) : (catB ws).data.toList = (ws.map (·.data.toList)).flatten := by
  unfold catB
  rw [joinB_data, show (ByteArray.mk #[]).data.toList = [] from rfl, join_flat]

theorem catB_append (a b : List ByteArray) : catB (a ++ b) = catB a ++ catB b := by
  apply bytes_ext
  rw [append_data, catB_data, catB_data, catB_data, List.map_append, List.flatten_append]

theorem catB_one (w : ByteArray) : catB [w] = w := by
  apply bytes_ext
  rw [catB_data]; simp

theorem catB_cons (w : ByteArray) (ws : List ByteArray) : catB (w :: ws) = w ++ catB ws := by
  apply bytes_ext
  rw [append_data, catB_data, catB_data]; simp

theorem ba_nil (w : ByteArray) : w ++ ByteArray.mk #[] = w := by
  apply bytes_ext
  rw [append_data]; simp

theorem catB_nil : catB [] = ByteArray.mk #[] := rfl

theorem catB_size : ∀ (ws : List ByteArray), (catB ws).size = (ws.map (·.size)).sum
  | [] => rfl
  | w :: ws => by rw [catB_cons, ByteArray.size_append, catB_size ws, List.map_cons, List.sum_cons]

theorem foldl_cat {α : Type} (g : α → ByteArray) : ∀ (l : List α) (x : ByteArray), l.foldl (fun x a => x ++ g a) x = x ++ catB (l.map g)
  | [], x => by rw [List.map_nil, catB_nil, ba_nil]; rfl
  | a :: l, x => by
    rw [List.foldl_cons, foldl_cat g l, List.map_cons, catB_cons]
    apply bytes_ext
    simp only [append_data, List.append_assoc]

theorem catB_flatMap {α : Type} (g : α → List ByteArray) : ∀ (l : List α), catB (l.flatMap g) = catB (l.map fun a => catB (g a))
  | [] => rfl
  | a :: l => by rw [List.flatMap_cons, catB_append, List.map_cons, catB_cons, catB_flatMap g l]

theorem sum_const {α : Type} (f : α → Nat) (c : Nat) : ∀ (l : List α), (∀ a ∈ l, f a ≤ c) → (l.map f).sum ≤ c * l.length
  | [], _ => by simp
  | a :: l, h => by
    have h1 := h a (by simp)
    have h2 := sum_const f c l fun x hx => h x (List.mem_cons_of_mem _ hx)
    rw [List.map_cons, List.sum_cons, List.length_cons, Nat.mul_add]
    omega
end Go.Proofs.YtcaknaddeblecaaGreatDoor.Fns
