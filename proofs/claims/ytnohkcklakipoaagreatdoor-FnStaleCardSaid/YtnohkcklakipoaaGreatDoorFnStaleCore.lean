/- FnStale's form answers true at every code. -/
import Derived.Test.YtnohkcklakipoaaGreatDoorCodes
import Derived.Test.YtnohkcklakipoaaGreatDoorStaleAll
namespace Go.Proofs.YtnohkcklakipoaaGreatDoor.FnStale
open Go Go.RowKit Go.Proofs Go.Proofs.YtnohkcklakipoaaGreatDoor.Ev Go.Proofs.YtnohkcklakipoaaGreatDoor.Fns
set_option maxRecDepth 1000000
set_option linter.unusedVariables false
theorem same (k:Nat) (l:List Int) (v0 v1 v2 m0 m1 m2:Int) (hb:F7 k l=some false) (h0:F8 k l 0=some v0) (h1:F8 k l 1=some v1) (h2:F8 k l 2=some v2) (e0:v0.tmod 20=m0.tmod 20) (e1:v1.tmod 5=m1.tmod 5) (e2:v2.tmod 2=m2.tmod 2) (b0:F7 k [m0,m1,m2]=some false) (g0:F8 k [m0,m1,m2] 0=some m0) (g1:F8 k [m0,m1,m2] 1=some m1) (g2:F8 k [m0,m1,m2] 2=some m2):F4 k l=F4 k [m0,m1,m2]:=by
  unfold F4
  rw [hb,h0,h1,h2,b0,g0,g1,g2]
  simp only [Option.bind_some]
  rw [e0,e1,e2]
theorem mods {v:Int} {q:Nat} (h0:0≤v) (hq:0<q):∃ m:Nat,m<q∧v.tmod q=m:=by
  refine ⟨(v.tmod q).toNat,?_,?_⟩ <;> rw [Int.tmod_eq_emod_of_nonneg h0]
  · have:=Int.emod_lt_of_pos v (show (0:Int)<q by omega);have:=Int.emod_nonneg v (show (q:Int)≠0 by omega);omega
  · have:=Int.emod_nonneg v (show (q:Int)≠0 by omega);omega
theorem small_mod {m q:Nat} (h:m<q):(m:Int)=(m:Int).tmod q:=by
  rw [Int.tmod_eq_emod_of_nonneg (by omega),Int.emod_eq_of_lt (by omega) (by omega)]
theorem at_lit (k:Nat) (l:List Int) (i:Nat) (m:Nat) (hi:i<1000) (hl:i<l.length) (hn:l.length<1000) (hm:m<256) (h:l.getD i 0=(m:Int)):F8 k l (i:Int)=some (m:Int):=by
  unfold F8
  rw [decide_eq_true (by omega),cond_true,decide_eq_true ⟨by omega,by omega⟩,cond_true,Int.toNat_natCast,h,Codes.small (by omega) (by omega)]
theorem plain (k:Nat) (hk:k=2097153) (a0:List Int) (ok:Ty.Ok (.slice (.int .u8)) a0):F4 k a0=some true:=by
  by_cases hn:a0.length≤1048576
  · subst hk
    obtain ⟨v0,h0,p0,_⟩:=Codes.at_some 2097153 a0 ok hn 0 (by omega)
    obtain ⟨m0,l0,e0⟩:=mods (q:=20) p0 (by omega)
    obtain ⟨v1,h1,p1,_⟩:=Codes.at_some 2097153 a0 ok hn 1 (by omega)
    obtain ⟨m1,l1,e1⟩:=mods (q:=5) p1 (by omega)
    obtain ⟨v2,h2,p2,_⟩:=Codes.at_some 2097153 a0 ok hn 2 (by omega)
    obtain ⟨m2,l2,e2⟩:=mods (q:=2) p2 (by omega)
    have hb:F7 2097153 a0=some false:=by
      unfold F7
      rw [decide_eq_false (by omega)]
    refine (same 2097153 a0 v0 v1 v2 (m0:Int) (m1:Int) (m2:Int) hb h0 h1 h2 (e0.trans (small_mod l0)) (e1.trans (small_mod l1)) (e2.trans (small_mod l2)) (by kernel_rfl) (at_lit _ _ 0 m0 (by omega) (by simp) (by simp) (by omega) rfl) (at_lit _ _ 1 m1 (by omega) (by simp) (by simp) (by omega) rfl) (at_lit _ _ 2 m2 (by omega) (by simp) (by simp) (by omega) rfl)).trans ?_
    rcases m1 with _ | _ | _ | _ | _ | m1
    · rcases m2 with _ | _ | m2
      · exact all_0_0 m0 l0
      · exact all_0_1 m0 l0
      · omega
    · rcases m2 with _ | _ | m2
      · exact all_1_0 m0 l0
      · exact all_1_1 m0 l0
      · omega
    · rcases m2 with _ | _ | m2
      · exact all_2_0 m0 l0
      · exact all_2_1 m0 l0
      · omega
    · rcases m2 with _ | _ | m2
      · exact all_3_0 m0 l0
      · exact all_3_1 m0 l0
      · omega
    · rcases m2 with _ | _ | m2
      · exact all_4_0 m0 l0
      · exact all_4_1 m0 l0
      · omega
    · omega
  · have hb:F7 k a0=some true:=by
      unfold F7
      rw [decide_eq_true (by omega)]
    unfold F4
    rw [hb]
    rfl
end Go.Proofs.YtnohkcklakipoaaGreatDoor.FnStale
