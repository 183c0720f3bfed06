/- The program's Var and the reference's write the same bytes. -/
import Derived.Test.YtigbabjhcihmaaaGreatDoorDec
namespace Go.Proofs.YtigbabjhcihmaaaGreatDoor.Fns
open Go Go.RowKit Go.Proofs Go.Proofs.YtigbabjhcihmaaaGreatDoor.Ev Go.Proofs.YtigbabjhcihmaaaGreatDoor.Pl
set_option linter.unusedVariables false
set_option linter.unusedSimpArgs false
set_option maxRecDepth 100000
theorem iter_congr {σ ρ:Type} {step step':(σ→Option ρ)→σ→Option ρ} (I:σ→Prop) (h:∀ rec rec' x,I x→(∀ y,I y→rec y=rec' y)→step rec x=step' rec' x):∀ (k:Nat) (x:σ),I x→iter step k x=iter step' k x
  | 0,_,_=>rfl
  | k+1,x,hx=>h _ _ x hx fun y hy=>iter_congr I h k y hy
theorem toNat_ofInt64 (n:Int) (h0:0≤n) (h1:n<9223372036854775808):(BitVec.ofInt 64 n).toNat=n.toNat:=by
  rw [BitVec.toNat_ofInt]
  rw [Int.emod_eq_of_lt h0 (by omega)]
theorem and127 (n:Int) (h0:0≤n) (h1:n<9223372036854775808):bitsAnd .i64 n 127=n % 128:=by
  unfold bitsAnd
  rw [stuckOn_eq,stuckOn_eq]
  have h:(BitVec.ofInt IntKind.i64.bits n &&& BitVec.ofInt IntKind.i64.bits 127).toNat=n.toNat % 128:=by
    show (BitVec.ofInt 64 n &&& BitVec.ofInt 64 127).toNat=_
    rw [BitVec.toNat_and,toNat_ofInt64 n h0 h1,toNat_ofInt64 127 (by decide) (by decide)]
    exact Nat.and_two_pow_sub_one_eq_mod n.toNat 7
  rw [h]
  show wrap64 _=_
  rw [w64 (by omega) (by omega)]
  omega
theorem or128 (m:Int) (h0:0≤m) (h1:m<128):bitsOr .i64 m 128=128+m:=by
  have h:∀ d:Fin 128,bitsOr .i64 (d.val:Int) 128=128+(d.val:Int):=by decide +kernel
  have:=h ⟨m.toNat,by omega⟩
  rw [show ((⟨m.toNat,by omega⟩:Fin 128).val:Int)=m by show ((m.toNat:Nat):Int)=m;omega] at this
  exact this
theorem shift7 (n:Int) (h0:0≤n):shiftR .i64 n 7=n / 128:=by
  show n.fdiv (2 ^ (min (7:Int).toNat IntKind.i64.bits))=n / 128
  have:(2:Int) ^ (min (7:Int).toNat IntKind.i64.bits)=128:=by decide
  rw [this,Int.fdiv_eq_ediv_of_nonneg _ (by decide)]
theorem var_same (k:Nat) (n:Int):F161 k n=F150 k n:=by
  unfold F161 F150 F176 F166
  by_cases h0:0≤n
  · by_cases h1:n≤562949953421311
    · rw [dT h0,dT h1]
      simp only [cond_true,Option.bind_some,Bool.not_true,cond_false]
      refine iter_congr (fun x=>0≤x.1∧x.1<9223372036854775808) ?_ k _ ⟨h0,by omega⟩
      rintro rec rec' ⟨x,l,_⟩ ⟨g0,g1⟩ hrec
      simp only at g0 g1 ⊢
      have ht:x.tmod 128=x % 128:=Int.tmod_eq_emod_of_nonneg g0
      have hd:x.tdiv 128=x / 128:=Int.tdiv_eq_ediv_of_nonneg g0
      have hw1:wrap64 (128+x % 128)=128+x % 128:=w64 (by omega) (by omega)
      have hw2:wrap64 (x / 128)=x / 128:=w64 (by omega) (by omega)
      rw [and127 x g0 g1,or128 (x % 128) (by omega) (by omega),shift7 x g0,ht,hd,hw1,hw2,dT (show (0:Int)≤7 by decide),dF (show ¬ (128:Int)=0 by decide)]
      have hc:decide ((127:Int)<x)=decide ((128:Int)≤x):=by rw [decide_eq_decide];omega
      rw [hc]
      simp only [cond_true,cond_false]
      rw [hrec (x / 128,l++[wr .u8 (128+x % 128)],()) ⟨by simp only;omega,by simp only;omega⟩]
    · rw [dT h0,dF h1];simp only [cond_false,cond_true,Option.bind_some,Bool.not_false]
  · rw [dF h0];simp only [cond_false,cond_true,Option.bind_some,Bool.not_false]
theorem var_some (k:Nat) (hk:fuel<k) (n:Int):∃ w,F150 k n=some w∧w.size≤8:=by
  have hk':2097152<k:=hk
  unfold F150 F166
  by_cases h0:0≤n
  · by_cases h1:n≤562949953421311
    · rw [dT h0,dT h1]
      simp only [cond_true,Option.bind_some,Bool.not_true,cond_false]
      have hs:∀ l:List Int,(strOf l).size=l.length:=fun l=>by rw [size_data];unfold strOf;simp
      have key:∀ (m k:Nat) (x:Int) (l:List Int),0≤x→x<128 ^ (m+1)→x≤562949953421311→m<k→l.length+m≤7 →
          ∃ w,iter (σ:=Int × List Int × Unit) (fun rec5 x4=>(bif (decide ((128:Int)≤x4.1)) then (bif (decide ((128:Int)=0)) then none else (bif (decide (x4.2.1.length+([(wr .u8 ((wrap64 ((128:Int)+(x4.1.tmod (128:Int))))))]:List Int).length<most)) then (bif (decide ((128:Int)=0)) then none else (rec5 ((wrap64 (x4.1.tdiv (128:Int))),(x4.2.1++([(wr .u8 ((wrap64 ((128:Int)+(x4.1.tmod (128:Int))))))]:List Int)),()))) else none)) else (bif (decide (x4.2.1.length+([(wr .u8 (x4.1))]:List Int).length<most)) then some (strOf (x4.2.1++([(wr .u8 (x4.1))]:List Int))) else none))) k (x,l,())=some w∧w.size≤l.length+m+1:=by
        intro m
        induction m with
        | zero =>
          intro k x l g0 g1 g2 hk hl
          obtain ⟨k',rfl⟩:∃ k',k=k'+1:=⟨k-1,by omega⟩
          simp only [iter]
          rw [dF (show ¬ (128:Int)≤x by simp at g1;omega),dT (show l.length+([wr .u8 x]:List Int).length<most by show l.length+1<8589934592;omega)]
          exact ⟨_,rfl,by rw [hs];simp⟩
        | succ m ih =>
          intro k x l g0 g1 g2 hk hl
          obtain ⟨k',rfl⟩:∃ k',k=k'+1:=⟨k-1,by omega⟩
          simp only [iter]
          have hm:l.length+1<8589934592:=by omega
          by_cases hx:(128:Int)≤x
          · have hd:x.tdiv 128=x / 128:=Int.tdiv_eq_ediv_of_nonneg g0
            have hw2:wrap64 (x.tdiv 128)=x / 128:=by rw [hd];exact w64 (by omega) (by omega)
            rw [dT hx,dF (show ¬ (128:Int)=0 by decide),hw2]
            generalize wr .u8 (wrap64 (128+x.tmod 128))=b
            rw [dT (show l.length+([b]:List Int).length<most from hm)]
            simp only [cond_true,cond_false]
            obtain ⟨w,q1,q2⟩:=ih k' (x / 128) (l++[b]) (by omega) (by rw [Int.pow_succ] at g1;omega) (by omega) (by omega) (by simp;omega)
            refine ⟨w,q1,?_⟩
            simp at q2;omega
          · rw [dF hx,dT (show l.length+([wr .u8 x]:List Int).length<most from hm)]
            exact ⟨_,rfl,by rw [hs];simp⟩
      obtain ⟨w,q1,q2⟩:=key 7 k n [] h0 (by omega) h1 (by omega) (by simp)
      exact ⟨w,q1,q2⟩
    · rw [dT h0,dF h1];exact ⟨_,rfl,by decide⟩
  · rw [dF h0];exact ⟨_,rfl,by decide⟩
end Go.Proofs.YtigbabjhcihmaaaGreatDoor.Fns
