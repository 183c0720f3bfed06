/- Answers that are shown: the program's text is the reference's. -/
import Derived.Test.YtigbabjhcihmaaaGreatDoorFlds
import Derived.Test.YtigbabjhcihmaaaGreatDoorVar
import Derived.Test.YtigbabjhcihmaaaGreatDoorEvCl
namespace Go.Proofs.YtigbabjhcihmaaaGreatDoor.Fns
open Go Go.RowKit Go.Proofs Go.Proofs.YtigbabjhcihmaaaGreatDoor.Ev Go.Proofs.YtigbabjhcihmaaaGreatDoor.Pl
set_option linter.unusedVariables false
set_option linter.unusedSimpArgs false
set_option maxRecDepth 100000
def bare (c:Int):Bool:=decide (c=204)||decide (c=304)
def respOk (a:D1):Bool:=(decide (200≤a.1)&&decide (a.1≤599))&&plainF a.2.1&&decide ((a.2.2.size:Int)≤60)&&(!bare a.1||decide (a.2.2=ByteArray.mk #[]))
theorem bare_I (k:Nat) (c:Int):F157 k c=some (bare c):=by
  unfold F157 bare
  cases decide (c=204) <;> rfl
theorem in_S (k:Nat) (a b c:Int):F166 k a b c=some (decide (b≤a)&&decide (a≤c)):=by
  unfold F166
  cases decide (b≤a) <;> rfl
theorem in_I (k:Nat) (a b c:Int):F176 k a b c=some (decide (b≤a)&&decide (a≤c)):=by
  unfold F176
  cases decide (b≤a) <;> rfl
theorem resp_cost {a:D1}:cost U1 a=cost (.slice U0) a.2.1+a.2.2.size:=by
  simp only [cost];omega
theorem resp_S (k:Nat) (hk:fuel<k) (a:D1) (hc:cost U1 a≤big):F146 k a=some (respOk a):=by
  have h:=resp_cost (a:=a)
  unfold F146 respOk bare
  rw [in_S,plain_S k hk a.2.1 (by omega)]
  simp only [Option.bind_some]
  cases (decide (200≤a.1)&&decide (a.1≤599)) <;> cases plainF a.2.1 <;> cases decide ((a.2.2.size:Int)≤60) <;> cases decide (a.1=204) <;> cases decide (a.1=304) <;> rfl
theorem resp_I (k:Nat) (hk:fuel<k) (a:D1) (hc:cost U1 a≤big):F156 k a=some (respOk a):=by
  have h:=resp_cost (a:=a)
  unfold F156 respOk
  rw [in_I,plain_I k hk a.2.1 (by omega),bare_I]
  simp only [Option.bind_some]
  cases (decide (200≤a.1)&&decide (a.1≤599)) <;> cases plainF a.2.1 <;> cases decide ((a.2.2.size:Int)≤60) <;> cases bare a.1 <;> cases decide (a.2.2=ByteArray.mk #[]) <;> rfl
theorem drop_S (k:Nat) (hk:fuel<k) (l:List D0) (name:ByteArray) (hc:l.length≤1048576):F145 k l name=some (l.filter fun f=>!decide (f.1=name)):=by
  have hk':2097152<k:=hk
  unfold F145
  refine iter_to (fun i x=>x.1=(i:Int)∧x.2.1=(l.take i).filter fun f=>!decide (f.1=name)) _ l.length ?_ ?_ k _ ⟨rfl,by simp⟩ (by omega)
  · rintro i ⟨xi,xs,_⟩ rec ⟨h1,h2⟩ hi hrec
    simp only at h1 h2
    subst h1;subst h2
    simp only [Int.toNat_natCast]
    rw [dT (show (i:Int)<(l.length:Int) by omega),dT (show 0≤(i:Int)∧(i:Int)<(l.length:Int) by omega),w64 (n:=(i:Int)+1) (by omega) (by omega)]
    simp only [cond_true,getD_lt hi]
    have ht:(l.take (i+1)).filter (fun f=>!decide (f.1=name))=(l.take i).filter (fun f=>!decide (f.1=name))++(if (!decide (l[i].1=name))=true then [l[i]] else []):=by
      rw [List.take_add_one,List.getElem?_eq_getElem hi,Option.toList_some,List.filter_append,List.filter_cons,List.filter_nil]
    cases hn:!decide (l[i].1=name) with
    | true =>
      rw [hn,if_pos rfl] at ht
      have hm:decide (((l.take i).filter fun f=>!decide (f.1=name)).length+([l[i]]:List D0).length<most)=true:=dT (by
        have h1:=List.length_filter_le (fun f:D0=>!decide (f.1=name)) (l.take i)
        have h2:=List.length_take_le i l
        show ((l.take i).filter fun f=>!decide (f.1=name)).length+1<8589934592
        omega)
      simp only [cond_true]
      rw [hm,cond_true]
      exact hrec _ ⟨by simp,by simp only;rw [ht]⟩
    | false =>
      rw [hn,if_neg (by simp)] at ht
      simp only [cond_false]
      exact hrec _ ⟨by simp,by simp only;rw [ht];simp⟩
  · rintro ⟨xi,xs,_⟩ rec ⟨h1,h2⟩
    simp only at h1 h2
    subst h1;subst h2
    rw [dF (show ¬ (l.length:Int)<(l.length:Int) by omega),List.take_length]
    rfl
theorem drop_id {name:ByteArray} {l:List D0} (h:hasN name l=false):(l.filter fun f=>!decide (f.1=name))=l:=by
  unfold hasN at h
  have h:=of_decide_eq_false h
  have h0:valsOf name l=[]:=List.length_eq_zero_iff.mp (by omega)
  unfold valsOf at h0
  have h1:=List.map_eq_nil_iff.mp h0
  rw [List.filter_eq_nil_iff] at h1
  rw [List.filter_eq_self]
  intro f hf
  simpa using h1 f hf
theorem framed (k:Nat) (hk:fuel<k) (l:List D0) (s:ByteArray) (hp:plainF l=true) (hs:s.size≤1048576) :
    ∃ w,F231 k l s=some (l++[(nCL,w)])∧F246 k l s=some (l++[(nCL,w)])∧w.size≤21:=by
  unfold plainF at hp
  simp only [Bool.and_eq_true,Bool.not_eq_true'] at hp
  obtain ⟨⟨⟨h1,h2⟩,h3⟩,h4⟩:=hp
  have h3:=of_decide_eq_true h3
  obtain ⟨w,q1,q2,q3⟩:=num k hk (s.size:Int) ⟨by omega,by omega⟩
  refine ⟨w,?_,?_,q3⟩
  · unfold F231
    rw [drop_S k hk l _ (by omega)]
    simp only [Option.bind_some]
    rw [drop_id h1,drop_S k hk l _ (by omega)]
    simp only [Option.bind_some]
    rw [drop_id h2,q1]
    simp only [Option.bind_some]
    have hm:decide (l.length+([(nCL,w)]:List D0).length<most)=true:=dT (by show l.length+1<8589934592;omega)
    exact (congrArg (fun b=>cond b _ _) hm).trans rfl
  · unfold F246 semClone
    rw [dT (show l.length≤34359738368 by omega),q2]
    simp only [cond_true,Option.bind_some]
    have hm:decide (l.length+([(nCL,w)]:List D0).length<most)=true:=dT (by show l.length+1<8589934592;omega)
    exact (congrArg (fun b=>cond b _ _) hm).trans rfl
theorem reason_same (k:Nat) (hk:fuel<k) (a:Int):∃ w,F232 k a=some w∧F247 k a=some w∧w.size≤40:=by
  have hk':2097152<k:=hk
  by_cases h:a=200∨a=203∨a=204∨a=300∨a=301∨a=304∨a=400∨a=404∨a=410∨a=502∨a=504
  · obtain ⟨k',rfl⟩:∃ k',k=k'+12:=⟨k-12,by omega⟩
    rcases h with rfl | rfl | rfl | rfl | rfl | rfl | rfl | rfl | rfl | rfl | rfl
    all_goals (refine ⟨_,?_,rfl,?_⟩;(· kernel_rfl);(· decide))
  · simp only [not_or] at h
    obtain ⟨h1,h2,h3,h4,h5,h6,h7,h8,h9,h10,h11⟩:=h
    refine ⟨ByteArray.mk #[83,116,97,116,117,115],?_,?_,by decide⟩
    · unfold F232
      have hm:∀ i,i<11→¬ (([(200:Int),(203:Int),(204:Int),(300:Int),(301:Int),(304:Int),(400:Int),(404:Int),(410:Int),(502:Int),(504:Int)]:List Int).getD i (0:Int))=a:=by
        intro i hi e
        have:a∈([(200:Int),(203:Int),(204:Int),(300:Int),(301:Int),(304:Int),(400:Int),(404:Int),(410:Int),(502:Int),(504:Int)]:List Int):=by
          rw [← e];exact getD_mem hi
        simp only [List.mem_cons,List.not_mem_nil,or_false] at this
        simp only [h1,h2,h3,h4,h5,h6,h7,h8,h9,h10,h11,or_false] at this
      refine iter_any (fun i x=>x.1=(i:Int)) _ 11 ?_ ?_ k 0 _ rfl (by omega) (by omega)
      · rintro i ⟨xi,_⟩ rec h1 hi hrec
        simp only at h1
        subst h1
        simp only [Int.toNat_natCast]
        rw [dT (show (i:Int)<(([(200:Int),(203:Int),(204:Int),(300:Int),(301:Int),(304:Int),(400:Int),(404:Int),(410:Int),(502:Int),(504:Int)]:List Int).length:Int) by show (i:Int)<11;omega),dT (show 0≤(i:Int)∧(i:Int)<(([(200:Int),(203:Int),(204:Int),(300:Int),(301:Int),(304:Int),(400:Int),(404:Int),(410:Int),(502:Int),(504:Int)]:List Int).length:Int) by show 0≤(i:Int)∧(i:Int)<11;omega),dF (hm i hi),w64 (n:=(i:Int)+1) (by omega) (by omega)]
        simp only [cond_true,cond_false]
        exact hrec _ rfl
      · rintro ⟨xi,_⟩ rec h1
        simp only at h1
        subst h1
        rfl
    · unfold F247
      rw [dF h1,dF h2,dF h3,dF h4,dF h5,dF h6,dF h7,dF h8,dF h9,dF h10,dF h11];rfl
def fieldLine (f:D0):ByteArray:=((f.1++(ByteArray.mk #[58,32]))++f.2)++(ByteArray.mk #[13,10])
theorem line_size (f:D0):(fieldLine f).size=cost U0 f+4:=by
  rw [field_cost]
  unfold fieldLine
  simp only [ByteArray.size_append]
  show f.1.size+2+f.2.size+2=_
  omega
theorem ba_assoc (a b c:ByteArray):(a++b)++c=a++(b++c):=bytes_ext (by simp only [append_data,List.append_assoc])
theorem showF_same (k:Nat) (hk:fuel<k) (l:List D0) (hc:cost (.slice U0) l≤fuel):∃ w,F233 k l=some w∧F248 k l=some w∧w.size≤5*cost (.slice U0) l+2:=by
  have hlen:l.length≤cost (.slice U0) l:=cost_len (e:=U0) l
  have hk':2097152<k:=hk
  have hc':cost (.slice U0) l≤2097152:=hc
  have hcc:cost (.slice U0) l=l.length+(l.map (cost U0)).sum:=rfl
  unfold F233 F248
  rw [fieldsOk_S k hk l hc,fieldsOk_I k hk l hc]
  simp only [Option.bind_some]
  cases fieldsOk l with
  | false=>exact ⟨_,rfl,rfl,Nat.zero_le _⟩
  | true =>
    simp only [Bool.not_true,cond_false]
    have hsum:(l.map fun f=>(fieldLine f).size).sum≤4*l.length+(l.map (cost U0)).sum:=sum_cost (e:=U0) (fun f=>(fieldLine f).size) 4 l (fun f _=>by simp only [line_size];omega)
    have hcap:(ByteArray.mk #[58,32]).size=2:=rfl
    have hcap2:(ByteArray.mk #[13,10]).size=2:=rfl
    have hM:(ByteArray.mk #[]).size+(l.map fun f=>(fieldLine f).size).sum≤1099511627776:=by
      have:(ByteArray.mk #[]).size=0:=rfl
      omega
    have hfin:(l.foldl (fun x f=>x++fieldLine f) (ByteArray.mk #[])).size≤1099511627776:=by rw [foldl_size];exact hM
    refine ⟨l.foldl (fun x f=>x++fieldLine f) (ByteArray.mk #[])++(ByteArray.mk #[13,10]),?_,?_,?_⟩
    · refine (iter_text l fieldLine 1099511627776 (fun x=>some (x++(ByteArray.mk #[13,10]))) (fun i hi x rec hx=>?_) (fun x rec hx=>?_) k _ hM (by omega))
      · have e:=line_size l[i]
        rw [field_cost] at e
        simp only [Int.toNat_natCast]
        rw [dT (show (i:Int)<(l.length:Int) by omega),dT (show 0≤(i:Int)∧(i:Int)<(l.length:Int) by omega),w64 (n:=(i:Int)+1) (by omega) (by omega)]
        simp only [cond_true,getD_lt hi]
        rw [fits (by omega),fits (by simp only [ByteArray.size_append,hcap];omega),fits (by simp only [ByteArray.size_append,hcap];omega),fits (by simp only [ByteArray.size_append,hcap,hcap2];omega)]
        simp only [cond_true]
        unfold fieldLine
        simp only [ba_assoc,Int.natCast_add,Int.cast_ofNat_Int]
      · simp only
        rw [dF (show ¬ (l.length:Int)<(l.length:Int) by omega),cond_false,fits (by rw [hcap2];omega)]
        rfl
    · refine (iter_text l fieldLine 1099511627776 (fun x=>some (x++(ByteArray.mk #[13,10]))) (fun i hi x rec hx=>?_) (fun x rec hx=>?_) k _ hM (by omega))
      · have e:=line_size l[i]
        rw [field_cost] at e
        simp only [Int.toNat_natCast]
        rw [dT (show (i:Int)<(l.length:Int) by omega),dT (show 0≤(i:Int)∧(i:Int)<(l.length:Int) by omega),w64 (n:=(i:Int)+1) (by omega) (by omega)]
        simp only [cond_true,getD_lt hi]
        rw [fits (by omega),fits (by simp only [ByteArray.size_append,hcap];omega),fits (by simp only [ByteArray.size_append,hcap,hcap2];omega),fits (by simp only [ByteArray.size_append,hcap,hcap2];omega)]
        simp only [cond_true]
        unfold fieldLine
        simp only [ba_assoc,Int.natCast_add,Int.cast_ofNat_Int]
      · simp only
        rw [dF (show ¬ (l.length:Int)<(l.length:Int) by omega),cond_false,fits (by rw [hcap2];omega)]
        rfl
    · rw [ByteArray.size_append,foldl_size,hcap2]
      have:(ByteArray.mk #[]).size=0:=rfl
      omega
theorem plain_len {l:List D0} (h:plainF l=true):l.length<12:=by
  unfold plainF at h
  simp only [Bool.and_eq_true] at h
  have:=of_decide_eq_true h.1.2
  omega
theorem showR_same (k:Nat) (hk:fuel<k) (a:D1) (ok:Ty.Ok U1 a) (hc:cost U1 a≤big):∃ w,F151 k a=some w∧F162 k a=some w∧w.size≤16777216:=by
  have h:=resp_cost (a:=a)
  have hc':cost U1 a≤1048576:=hc
  unfold F151 F162
  rw [resp_S k hk a hc,resp_I k hk a hc,bare_I]
  simp only [Option.bind_some]
  cases hr:respOk a with
  | false=>exact ⟨_,rfl,rfl,Nat.zero_le _⟩
  | true =>
    simp only [Bool.not_true,cond_false]
    have hp:plainF a.2.1=true:=by
      unfold respOk at hr
      simp only [Bool.and_eq_true] at hr
      exact hr.1.1.2
    have hlen:=plain_len hp
    obtain ⟨r,a1,b1,s1⟩:=num k hk a.1 (i64_ok ok.1)
    obtain ⟨q,a2,b2,s2⟩:=reason_same k hk a.1
    obtain ⟨fw,f1,f2,f3⟩:=framed k hk a.2.1 a.2.2 hp (by omega)
    have hcl:cost (.slice U0) (a.2.1++[(nCL,fw)])≤cost (.slice U0) a.2.1+40:=by
      show (a.2.1++[(nCL,fw)]).length+((a.2.1++[(nCL,fw)]).map (cost U0)).sum≤a.2.1.length+(a.2.1.map (cost U0)).sum+40
      rw [List.map_append,List.sum_append_nat,List.length_append,List.map_cons,List.map_nil,List.sum_cons,List.sum_nil,field_cost]
      show a.2.1.length+1+((a.2.1.map (cost U0)).sum+(14+fw.size+0))≤_
      omega
    obtain ⟨g,a3,b3,s3⟩:=showF_same k hk (a.2.1++[(nCL,fw)]) (Nat.le_trans hcl (by show _≤2097152;omega))
    obtain ⟨g',a4,b4,s4⟩:=showF_same k hk a.2.1 (Nat.le_trans (show _≤big by omega) (by decide))
    rw [f1,f2,a1,b1,a2,b2,a4,b4]
    simp only [Option.bind_some]
    rw [a3,b3]
    simp only [Option.bind_some]
    have h9:(ByteArray.mk #[72,84,84,80,47,49,46,49,32]).size=9:=rfl
    have h32:(ByteArray.mk #[32]).size=1:=rfl
    have hcr:(ByteArray.mk #[13,10]).size=2:=rfl
    have t1:decide ((ByteArray.mk #[72,84,84,80,47,49,46,49,32]).size+r.size<mostText)=true:=fits (by omega)
    have t2:decide (((ByteArray.mk #[72,84,84,80,47,49,46,49,32])++r).size+(ByteArray.mk #[32]).size<mostText)=true:=fits (by simp only [ByteArray.size_append];omega)
    have t3:decide ((((ByteArray.mk #[72,84,84,80,47,49,46,49,32])++r)++(ByteArray.mk #[32])).size+q.size<mostText)=true:=fits (by simp only [ByteArray.size_append];omega)
    have t4:decide (((((ByteArray.mk #[72,84,84,80,47,49,46,49,32])++r)++(ByteArray.mk #[32]))++q).size+(ByteArray.mk #[13,10]).size<mostText)=true:=fits (by simp only [ByteArray.size_append];omega)
    have t5:∀ x:ByteArray,x.size≤11534336→decide ((((((ByteArray.mk #[72,84,84,80,47,49,46,49,32])++r)++(ByteArray.mk #[32]))++q)++(ByteArray.mk #[13,10])).size+x.size<mostText)=true:=fun x hx=>fits (by simp only [ByteArray.size_append];omega)
    have t6:∀ x:ByteArray,x.size≤11534336→decide (((((((ByteArray.mk #[72,84,84,80,47,49,46,49,32])++r)++(ByteArray.mk #[32]))++q)++(ByteArray.mk #[13,10]))++x).size+a.2.2.size<mostText)=true:=fun x hx=>fits (by simp only [ByteArray.size_append];omega)
    rw [t1,t2,t3,t4,t5 g (by omega),t6 g (by omega),t5 g' (by omega),t6 g' (by omega)]
    simp only [cond_true]
    have hsz:∀ x:ByteArray,x.size≤11534336→(((((((ByteArray.mk #[72,84,84,80,47,49,46,49,32])++r)++(ByteArray.mk #[32]))++q)++(ByteArray.mk #[13,10]))++x)++a.2.2).size≤16777216:=fun x hx=>by simp only [ByteArray.size_append];omega
    unfold bare
    cases decide (a.1=204) with
    | true=>exact ⟨_,rfl,rfl,hsz g' (by omega)⟩
    | false =>
      cases decide (a.1=304) with
      | true=>exact ⟨_,rfl,rfl,hsz g' (by omega)⟩
      | false=>exact ⟨_,rfl,rfl,hsz g (by omega)⟩
theorem text_same (k:Nat) (hk:fuel<k) (s:ByteArray) (hs:s.size≤281474976710656):∃ w,F149 k s=some w∧F160 k s=some w∧w.size≤s.size+8:=by
  obtain ⟨v,q1,q2⟩:=var_some k hk (s.size:Int)
  have h:decide (v.size+s.size<mostText)=true:=fits (by omega)
  refine ⟨v++s,?_,?_,by rw [ByteArray.size_append];omega⟩
  · unfold F149
    rw [q1,Option.bind_some,h];rfl
  · unfold F160
    rw [var_same,q1,Option.bind_some,h];rfl
def texted (k:Nat) (s:ByteArray):ByteArray:=(F149 k s).getD (ByteArray.mk #[])
theorem texted_eq (k:Nat) (hk:fuel<k) (s:ByteArray) (hs:s.size≤281474976710656):F149 k s=some (texted k s)∧F160 k s=some (texted k s)∧(texted k s).size≤s.size+8:=by
  obtain ⟨w,h1,h2,h3⟩:=text_same k hk s hs
  have:texted k s=w:=by unfold texted;rw [h1];rfl
  rw [this];exact ⟨h1,h2,h3⟩
end Go.Proofs.YtigbabjhcihmaaaGreatDoor.Fns
