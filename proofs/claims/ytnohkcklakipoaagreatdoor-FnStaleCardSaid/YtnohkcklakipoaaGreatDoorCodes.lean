/- The bytes of a code that a law looks at. -/
import Derived.Test.YtnohkcklakipoaaGreatDoorFns
namespace Go.Proofs.YtnohkcklakipoaaGreatDoor.Codes
open Go Go.RowKit Go.Proofs Go.Proofs.YtnohkcklakipoaaGreatDoor.Ev Go.Proofs.YtnohkcklakipoaaGreatDoor.Fns
set_option linter.unusedVariables false
theorem small {n:Int} (h0:0≤n) (h:n<1099511627776):wrap64 n=n:=by unfold wrap64;omega
theorem at_some (k:Nat) (l:List Int) (ok:Ty.Ok (.slice (.int .u8)) l) (hn:l.length≤1048576) (i:Nat) (hi:i<1000000):∃ v,F8 k l (i:Int)=some v∧0≤v∧v<256:=by
  unfold F8
  by_cases h:i<l.length
  · have h1:decide ((i:Int)<(l.length:Int))=true:=decide_eq_true (by omega)
    have h2:decide (0≤(i:Int)∧(i:Int)<(l.length:Int))=true:=decide_eq_true ⟨by omega,by omega⟩
    rw [h1,cond_true,h2,cond_true]
    have hm:l.getD (i:Int).toNat 0∈l:=by
      rw [Int.toNat_natCast,List.getD_eq_getElem?_getD,List.getElem?_eq_getElem h]
      exact List.getElem_mem h
    have hb:=ok.2 _ hm
    have h0:0≤l.getD (i:Int).toNat 0:=hb.1
    have h3:l.getD (i:Int).toNat 0≤255:=hb.2
    rw [small h0 (by omega)]
    exact ⟨_,rfl,h0,by omega⟩
  · have h1:decide ((i:Int)<(l.length:Int))=false:=decide_eq_false (by omega)
    rw [h1,cond_false,show decide ((256:Int)=0)=false from rfl,cond_false]
    have e1:wrap64 ((i:Int)*(37:Int))=(i:Int)*37:=small (by omega) (by omega)
    have e2:wrap64 ((l.length:Int)*(11:Int))=(l.length:Int)*11:=small (by omega) (by omega)
    have e3:wrap64 ((i:Int)*37+(l.length:Int)*11)=(i:Int)*37+(l.length:Int)*11:=small (by omega) (by omega)
    rw [e1,e2,e3]
    refine ⟨_,rfl,?_,?_⟩
    · rw [Int.tmod_eq_emod_of_nonneg (by omega)];omega
    · rw [Int.tmod_eq_emod_of_nonneg (by omega)];omega
end Go.Proofs.YtnohkcklakipoaaGreatDoor.Codes
