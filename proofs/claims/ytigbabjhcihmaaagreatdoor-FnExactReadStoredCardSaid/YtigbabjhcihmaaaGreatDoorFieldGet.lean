/- The program's FieldGet tells what the reference's tells. -/
import Derived.Test.YtigbabjhcihmaaaGreatDoorTxt
namespace Go.Proofs.YtigbabjhcihmaaaGreatDoor.Fns
open Go Go.RowKit Go.Proofs Go.Proofs.YtigbabjhcihmaaaGreatDoor.Ev Go.Proofs.YtigbabjhcihmaaaGreatDoor.Pl
set_option linter.unusedVariables false
set_option linter.unusedSimpArgs false
set_option maxRecDepth 100000
theorem join_snoc (m:List (List UInt8)) (v sep:List UInt8):Lib.join (m++[v]) sep=if m=[] then v else Lib.join m sep++(sep++v):=by
  cases m with
  | nil=>rw [if_pos rfl,List.nil_append,Lib.join_one]
  | cons x r =>
    rw [if_neg (by simp),List.cons_append,Lib.join_cons,Lib.join_cons,Lib.joinTail,Lib.joinTail,List.map_append,List.flatten_append]
    simp
def valsOf (name:ByteArray) (l:List D0):List ByteArray:=(l.filter fun f=>decide (f.1=name)).map (·.2)
theorem vals_take (name:ByteArray) (l:List D0) (i:Nat) (hi:i<l.length):valsOf name (l.take (i+1))=if (l.getD i Z0).1=name then valsOf name (l.take i)++[(l.getD i Z0).2] else valsOf name (l.take i):=by
  rw [getD_lt hi]
  unfold valsOf
  rw [List.take_add_one,List.getElem?_eq_getElem hi,Option.toList_some,List.filter_append,List.map_append]
  by_cases h:l[i].1=name
  · rw [if_pos h];simp [h]
  · rw [if_neg h];simp [h]
abbrev comma:ByteArray:=ByteArray.mk #[44,32]
theorem joined_len (name:ByteArray) (l:List D0):∀ i,i≤l.length→(Lib.join ((valsOf name (l.take i)).map (·.data.toList)) comma.data.toList).length≤((l.map (cost U0)).take i).sum+2*i:=by
  intro i
  induction i with
  | zero=>intro _;simp [valsOf,Lib.join_nil]
  | succ i ih =>
    intro hi
    have h1:=ih (by omega)
    have hi':i<l.length:=hi
    have hs:=sum_take_succ (l.map (cost U0)) i (by simpa using hi')
    rw [List.getElem_map,← getD_lt (z:=Z0) hi'] at hs
    have hc:(l.getD i Z0).2.data.toList.length≤cost U0 (l.getD i Z0):=by
      rw [← size_data];simp only [cost];omega
    rw [vals_take name l i (by omega),hs]
    split
    · rw [List.map_append,List.map_cons,List.map_nil,join_snoc]
      split
      · omega
      · rw [List.length_append,List.length_append]
        have:comma.data.toList.length=2:=rfl
        omega
    · omega
theorem getS (k:Nat) (hk:fuel<k) (l:List D0) (name:ByteArray) (hc:cost (.slice U0) l≤big) :
    F228 k l name=some (⟨(Lib.join ((valsOf name l).map (·.data.toList)) comma.data.toList).toArray⟩,decide (0<(valsOf name l).length)):=by
  have hlen:l.length≤1048576:=Nat.le_trans (cost_len (e:=U0) l) hc
  have hk':2097152<k:=hk
  have hc':l.length+(l.map (cost U0)).sum≤1048576:=hc
  unfold F228
  refine iter_to (fun i x=>x.2.2.1=(i:Int)∧x.1=⟨(Lib.join ((valsOf name (l.take i)).map (·.data.toList)) comma.data.toList).toArray⟩∧x.2.1=decide (0<(valsOf name (l.take i)).length)) _ l.length ?_ ?_ k _ ⟨rfl,by simp [valsOf,Lib.join_nil],by simp [valsOf]⟩ (by omega)
  · rintro i ⟨xs,xf,xi,_⟩ rec ⟨h1,h2,h3⟩ hi hrec
    simp only at h1 h2 h3
    subst h1
    have e1:decide ((i:Int)<(l.length:Int))=true:=dT (by omega)
    have e2:decide (0≤(i:Int)∧(i:Int)<(l.length:Int))=true:=dT (by omega)
    have hj:=joined_len name l i (by omega)
    have hj1:=joined_len name l (i+1) (by omega)
    have ht:=sum_take_le (l.map (cost U0)) i
    have ht1:=sum_take_le (l.map (cost U0)) (i+1)
    have hxs:xs.size=(Lib.join ((valsOf name (l.take i)).map (·.data.toList)) comma.data.toList).length:=by rw [h2,size_data]
    have hv2:(l.getD i Z0).2.size≤1048576:=by
      have h1:cost U0 (l.getD i Z0)≤cost (.slice U0) l:=cost_mem (getD_mem hi)
      have h2:(l.getD i Z0).2.size≤cost U0 (l.getD i Z0):=by simp only [cost];omega
      exact Nat.le_trans h2 (Nat.le_trans h1 hc)
    have hcm:comma.size=2:=rfl
    simp only [e1,e2,cond_true,Int.toNat_natCast]
    rw [w64 (n:=(i:Int)+1) (by omega) (by omega)]
    have hvt:=vals_take name l i hi
    by_cases hn:(l.getD i Z0).1=name
    · rw [if_pos hn] at hvt
      rw [dT hn]
      simp only [Bool.not_true,cond_false]
      cases xf with
      | true =>
        have hne:valsOf name (l.take i)≠[]:=by intro e;rw [e] at h3;simp at h3
        simp only [cond_true]
        rw [fits (by rw [hxs,hcm];omega),cond_true,fits (by rw [ByteArray.size_append,hxs,hcm];omega),cond_true]
        refine hrec _ ⟨by simp,?_,?_⟩
        · simp only
          apply bytes_ext
          rw [hvt,List.map_append,List.map_cons,List.map_nil,join_snoc,if_neg (by simpa using hne),append_data,append_data,h2,List.append_assoc]
        · simp only;rw [hvt];simp
      | false =>
        have hne:valsOf name (l.take i)=[]:=by
          have:=of_decide_eq_false h3.symm
          exact List.length_eq_zero_iff.mp (by omega)
        have hx0:xs.data.toList=[]:=by rw [h2,hne];rfl
        simp only [cond_false]
        rw [fits (by rw [size_data,hx0];simp only [List.length_nil];omega),cond_true]
        refine hrec _ ⟨by simp,?_,?_⟩
        · simp only
          apply bytes_ext
          rw [hvt,hne,append_data,hx0]
          simp [Lib.join_one]
        · simp only;rw [hvt];simp
    · rw [if_neg hn] at hvt
      rw [dF hn]
      simp only [Bool.not_false,cond_true]
      exact hrec _ ⟨by simp,by rw [hvt];exact h2,by rw [hvt];exact h3⟩
  · rintro ⟨xs,xf,xi,_⟩ rec ⟨h1,h2,h3⟩
    simp only at h1 h2 h3
    subst h1
    rw [List.take_length] at h2 h3
    subst h2;subst h3
    rw [dF (show ¬ (l.length:Int)<(l.length:Int) by omega)]
    rfl
theorem getI (k:Nat) (hk:fuel<k) (l:List D0) (name:ByteArray) (hc:cost (.slice U0) l≤big) :
    F242 k l name=some (⟨(Lib.join ((valsOf name l).map (·.data.toList)) comma.data.toList).toArray⟩,decide (0<(valsOf name l).length)):=by
  have hlen:l.length≤1048576:=Nat.le_trans (cost_len (e:=U0) l) hc
  have hk':2097152<k:=hk
  have hc':l.length+(l.map (cost U0)).sum≤1048576:=hc
  have hvl:∀ m:List D0,(valsOf name m).length≤m.length:=fun m=>by unfold valsOf;rw [List.length_map];exact List.length_filter_le _ _
  unfold F242
  refine iter_to (fun i x=>x.1=(i:Int)∧x.2.1=valsOf name (l.take i)) _ l.length ?_ ?_ k _ ⟨rfl,by simp [valsOf]⟩ (by omega)
  · rintro i ⟨xi,xs,_⟩ rec ⟨h1,h2⟩ hi hrec
    simp only at h1 h2
    subst h1;subst h2
    have e1:decide ((i:Int)<(l.length:Int))=true:=dT (by omega)
    have e2:decide (0≤(i:Int)∧(i:Int)<(l.length:Int))=true:=dT (by omega)
    simp only [e1,e2,cond_true,Int.toNat_natCast]
    rw [w64 (n:=(i:Int)+1) (by omega) (by omega)]
    have hvt:=vals_take name l i hi
    by_cases hn:(l.getD i Z0).1=name
    · rw [if_pos hn] at hvt
      rw [dT hn,cond_true]
      have hm:decide ((valsOf name (l.take i)).length+([(l.getD i Z0).2]:List ByteArray).length<most)=true:=dT (by
        have:=hvl (l.take i)
        have:=List.length_take_le i l
        show (valsOf name (l.take i)).length+1<8589934592
        omega)
      rw [hm,cond_true]
      exact hrec _ ⟨by simp,by simp only;rw [hvt]⟩
    · rw [if_neg hn] at hvt
      rw [dF hn,cond_false]
      exact hrec _ ⟨by simp,by simp only;rw [hvt]⟩
  · rintro ⟨xi,xs,_⟩ rec ⟨h1,h2⟩
    simp only at h1 h2
    subst h1;subst h2
    rw [dF (show ¬ (l.length:Int)<(l.length:Int) by omega),List.take_length,cond_false]
    have hj:=joined_len name l l.length (Nat.le_refl _)
    rw [List.take_length] at hj
    have ht:=sum_take_le (l.map (cost U0)) l.length
    have:=hvl l
    rw [join_to (b:=⟨(Lib.join ((valsOf name l).map (·.data.toList)) comma.data.toList).toArray⟩) rfl (by omega) (by rw [size_data];show (Lib.join _ _).length≤_;omega),Option.bind_some]
    congr 2
    rw [decide_eq_decide]
    simp
end Go.Proofs.YtigbabjhcihmaaaGreatDoor.Fns
