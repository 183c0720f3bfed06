/- Texts that are put together: bounds, loops that append, numbers. -/
import Derived.Test.YtigbabjhcihmaaaGreatDoorDec
namespace Go.Proofs.YtigbabjhcihmaaaGreatDoor.Fns
open Go Go.RowKit Go.Proofs Go.Proofs.YtigbabjhcihmaaaGreatDoor.Ev Go.Proofs.YtigbabjhcihmaaaGreatDoor.Pl
set_option linter.unusedVariables false
set_option linter.unusedSimpArgs false
set_option maxRecDepth 100000
theorem i64_ok {n:Int} (h:Ty.Ok (.int .i64) n):-9223372036854775808≤n∧n≤9223372036854775807:=h
theorem fits {a b:ByteArray} (h:a.size+b.size≤4611686018427387903):decide (a.size+b.size<mostText)=true:=dT (by show a.size+b.size<4611686018427387904;omega)
theorem join_to {l:List ByteArray} {sep b:ByteArray} (h:Lib.join (l.map (·.data.toList)) sep.data.toList=b.data.toList) (hl:l.length≤140737488355328) (hb:b.size≤140737488355328):semJoin l sep=some b:=by
  unfold semJoin
  rw [h,dT ⟨hl,by rw [← size_data];exact hb⟩]
  cases b
  rfl
theorem num (k:Nat) (hk:fuel<k) (n:Int) (h:-9223372036854775808≤n∧n≤9223372036854775807):∃ w,F221 k n=some w∧F239 k n=some w∧w.size≤21:=by
  refine ⟨_,dec_eq k hk n h.1 h.2,?_,itoa_len n h.1 h.2⟩
  unfold F239
  rw [itoa_eq n h.1 h.2];rfl
theorem iter_text {α ρ:Type} {step:(ByteArray × Int × Unit→Option ρ)→ByteArray × Int × Unit→Option ρ} (l:List α) (g:α→ByteArray) (M:Nat) (fin:ByteArray→Option ρ)
    (hs:∀ (i:Nat) (h:i<l.length) x rec,x.size+(g l[i]).size≤M→step rec (x,(i:Int),())=rec (x++g l[i],((i+1:Nat):Int),()))
    (he:∀ x rec,x.size≤M→step rec (x,(l.length:Int),())=fin x) (k:Nat) (x:ByteArray) (hM:x.size+(l.map fun a=>(g a).size).sum≤M) (hk:l.length<k) :
    iter step k (x,(0:Int),())=fin (l.foldl (fun x a=>x++g a) x):=by
  suffices h:∀ (k i:Nat) (x:ByteArray),i≤l.length→l.length-i<k→x.size+((l.drop i).map fun a=>(g a).size).sum≤M→iter step k (x,(i:Int),())=fin ((l.drop i).foldl (fun x a=>x++g a) x) from h k 0 x (Nat.zero_le _) (by omega) hM
  intro k
  induction k with
  | zero=>intro i x hi hk;omega
  | succ k ih =>
    intro i x hi hk hM
    simp only [iter]
    by_cases e:i=l.length
    · subst e
      rw [List.drop_length] at hM ⊢
      rw [he x _ (by simpa using hM)]
      rfl
    · have hlt:i<l.length:=by omega
      rw [List.drop_eq_getElem_cons hlt,List.map_cons,List.sum_cons] at hM
      rw [hs i hlt x _ (by omega),List.drop_eq_getElem_cons hlt,List.foldl_cons]
      exact ih (i+1) _ (by omega) (by omega) (by rw [ByteArray.size_append];omega)
theorem foldl_size {α:Type} (g:α→ByteArray):∀ (l:List α) (x:ByteArray),(l.foldl (fun x a=>x++g a) x).size=x.size+(l.map fun a=>(g a).size).sum
  | [],x=>by simp
  | a :: l,x=>by rw [List.foldl_cons,foldl_size g l,ByteArray.size_append,List.map_cons,List.sum_cons];omega
theorem sum_cost {e:Ty} (g:e.den→Nat) (c:Nat):∀ (l:List e.den),(∀ a∈l,g a≤c+cost e a)→(l.map g).sum≤c*l.length+(l.map (cost e)).sum
  | [],_=>by simp
  | a :: l,h=>by
    have h1:=h a (by simp)
    have h2:=sum_cost g c l fun x hx=>h x (List.mem_cons_of_mem _ hx)
    rw [List.map_cons,List.map_cons,List.sum_cons,List.sum_cons,List.length_cons,Nat.mul_add]
    omega
end Go.Proofs.YtigbabjhcihmaaaGreatDoor.Fns
