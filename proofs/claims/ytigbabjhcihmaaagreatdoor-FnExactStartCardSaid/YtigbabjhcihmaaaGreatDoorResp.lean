/- Answers that are shown: the program's text is the reference's. -/
import Derived.Test.YtigbabjhcihmaaaGreatDoorFlds
import Derived.Test.YtigbabjhcihmaaaGreatDoorVar
import Derived.Test.YtigbabjhcihmaaaGreatDoorEvCl
namespace Go.Proofs.YtigbabjhcihmaaaGreatDoor.Fns
open Go Go.RowKit Go.Proofs Go.Proofs.YtigbabjhcihmaaaGreatDoor.Ev Go.Proofs.YtigbabjhcihmaaaGreatDoor.Pl
set_option linter.unusedVariables false
set_option linter.unusedSimpArgs false
set_option maxRecDepth 100000

def bare (c : Int) : Bool := decide (c = 204) || decide (c = 304)
def respOk (a : D5) : Bool := (decide (200 ≤ a.1) && decide (a.1 ≤ 599)) && plainF a.2.1 && decide ((a.2.2.size : Int) ≤ 60) && (!bare a.1 || decide (a.2.2 = ByteArray.mk #[]))

theorem bare_I (k : Nat) (c : Int) : F157 k c = some (bare c) := by
  unfold F157 bare
  cases decide (c = 204) <;> rfl

theorem in_S (k : Nat) (a b c : Int) : F166 k a b c = some (decide (b ≤ a) && decide (a ≤ c)) := by
  unfold F166
  cases decide (b ≤ a) <;> rfl
theorem in_I (k : Nat) (a b c : Int) : F176 k a b c = some (decide (b ≤ a) && decide (a ≤ c)) := by
  unfold F176
  cases decide (b ≤ a) <;> rfl

theorem resp_cost {a : D5} : cost U5 a = cost (.slice U0) a.2.1 + a.2.2.size := by
  simp only [cost]; omega

theorem resp_S (k : Nat) (hk : fuel < k) (a : D5) (hc : cost U5 a ≤ big) : F146 k a = some (respOk a) := by
  have h := resp_cost (a := a)
  unfold F146 respOk bare
  rw [in_S, plain_S k hk a.2.1 (by omega)]
  simp only [Option.bind_some]
  cases (decide (200 ≤ a.1) && decide (a.1 ≤ 599)) <;> cases plainF a.2.1 <;> cases decide ((a.2.2.size : Int) ≤ 60) <;> cases decide (a.1 = 204) <;> cases decide (a.1 = 304) <;> rfl

theorem resp_I (k : Nat) (hk : fuel < k) (a : D5) (hc : cost U5 a ≤ big) : F156 k a = some (respOk a) := by
  have h := resp_cost (a := a)
  unfold F156 respOk
  rw [in_I, plain_I k hk a.2.1 (by omega), bare_I]
  simp only [Option.bind_some]
  cases (decide (200 ≤ a.1) && decide (a.1 ≤ 599)) <;> cases plainF a.2.1 <;> cases decide ((a.2.2.size : Int) ≤ 60) <;> cases bare a.1 <;> cases decide (a.2.2 = ByteArray.mk #[]) <;> rfl

/-! ### what is framed -/
theorem drop_id {name : ByteArray} {l : List D0} (h : hasN name l = false) : (l.filter fun f => !decide (f.1 = name)) = l := by
  unfold hasN at h
  have h := of_decide_eq_false h
  have h0 : valsOf name l = [] := List.length_eq_zero_iff.mp (by omega)
  unfold valsOf at h0
  have h1 := List.map_eq_nil_iff.mp h0
  rw [List.filter_eq_nil_iff] at h1
  rw [List.filter_eq_self]
  intro f hf
  simpa using h1 f hf

def fieldLine (f : D0) : ByteArray := ((f.1 ++ (ByteArray.mk #[58, 32])) ++ f.2) ++ (ByteArray.mk #[13, 10])

theorem line_size (f : D0) : (fieldLine f).size = cost U0 f + 4 := by
  rw [field_cost]
  unfold fieldLine
  simp only [ByteArray.size_append]
  show f.1.size + 2 + f.2.size + 2 = _
  omega

theorem ba_assoc (a b c : ByteArray) : (a ++ b) ++ c = a ++ (b ++ c) := bytes_ext (by simp only [append_data, List.append_assoc])

theorem plain_len {l : List D0} (h : plainF l = true) : l.length < 12 := by
  unfold plainF at h
  simp only [Bool.and_eq_true] at h
  have := of_decide_eq_true h.1.2
  omega

end Go.Proofs.YtigbabjhcihmaaaGreatDoor.Fns
