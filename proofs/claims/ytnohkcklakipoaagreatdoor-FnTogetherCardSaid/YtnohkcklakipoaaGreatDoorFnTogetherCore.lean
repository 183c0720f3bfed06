/- FnTogether's form answers true at every code: where the connections stand, and how often the log says what, as steps go on. -/
import Derived.Test.YtnohkcklakipoaaGreatDoorCodes
import Derived.Test.YtnohkcklakipoaaGreatDoorTogAll
import Derived.Test.YtnohkcklakipoaaGreatDoorTogP
namespace Go.Proofs.YtnohkcklakipoaaGreatDoor.FnTogether
open Go Go.RowKit Go.Proofs Go.Proofs.YtnohkcklakipoaaGreatDoor.Ev Go.Proofs.YtnohkcklakipoaaGreatDoor.Fns
set_option maxRecDepth 1000000
set_option linter.unusedVariables false
set_option linter.unusedSimpArgs false
theorem as_lg (L:List D13):L=lg (fun i=>L.getD i Z13) L.length:=by
  unfold lg
  apply List.ext_getElem?
  intro i
  rw [List.getElem?_map]
  by_cases h:i<L.length
  · rw [List.getElem?_range h,List.getElem?_eq_getElem h]
    simp [h]
  · rw [List.getElem?_eq_none (by omega),List.getElem?_eq_none (by simp;omega)]
    rfl
def nS (L:List D13):Nat:=(L.filter fun e=>decide (e.1=10)).length
def nQ (L:List D13):Nat:=(L.filter fun e=>decide (e.1=6)&&decide (e.2.2.2.1=url)).length
def sh (p:List Nat):Nat:=((p.drop 1).map fun q=>min q 1).sum
def sd (p:List Nat):Nat:=min (p.getD 0 0) 1
def run (n:Nat):Nat→Nat→List Nat→List Nat
  | 0,_,p=>p
  | d+1,c,p=>run n d (c+1) (nx p (c % n))
def done (n:Nat):List Nat:=5 :: List.replicate (n-1) 3
structure Sys (n:Nat) (st:List (List Nat)):Prop where
  big:2≤n∧n≤4
  world:∀ p∈st,∀ x:Nat→D13,F29 2097153 (W n p (lg x (ml n p)))=some (W n p (lg x (ml n p)))∧∀ i:Nat,i<n→F21 2097153 (W n p (lg x (ml n p))) (i:Int)=some (W n (nx p i) (lg x (ml n p)++ev p i))
  next:∀ p∈st,∀ i,i<n→nx p i∈st∧ml n (nx p i)=ml n p+(ev p i).length∧sh (nx p i)=sh p+nS (ev p i)∧sd (nx p i)=sd p+nQ (ev p i)
  fin:∀ p∈st,run n 200 0 p=done n
  small:∀ p∈st,ml n p<1000
theorem sys2:Sys 2 st2:=⟨by decide,all2,by decide +kernel,by decide +kernel,by decide +kernel⟩
theorem sys3:Sys 3 st3:=⟨by decide,all3,by decide +kernel,by decide +kernel,by decide +kernel⟩
theorem sys4:Sys 4 st4:=⟨by decide,all4,by decide +kernel,by decide +kernel,by decide +kernel⟩
def Good (n:Nat) (st:List (List Nat)) (p:List Nat) (L:List D13):Prop:=p∈st∧L.length=ml n p∧nS L=sh p∧nQ L=sd p
section
variable {n:Nat} {st:List (List Nat)} {p:List Nat} {L:List D13}
theorem Sys.clone (S:Sys n st) (h:Good n st p L):F29 2097153 (W n p L)=some (W n p L):=by
  have:=(S.world p h.1 fun i=>L.getD i Z13).1
  rwa [← h.2.1,← as_lg] at this
theorem Sys.step (S:Sys n st) (h:Good n st p L) {i:Nat} (hi:i<n):F21 2097153 (W n p L) (i:Int)=some (W n (nx p i) (L++ev p i))∧Good n st (nx p i) (L++ev p i):=by
  have:=(S.world p h.1 fun i=>L.getD i Z13).2 i hi
  rw [← h.2.1,← as_lg] at this
  obtain ⟨h1,h2,h3,h4⟩:=S.next p h.1 i hi
  refine ⟨this,h1,by rw [List.length_append,h.2.1,h2],?_,?_⟩
  · rw [h3,← h.2.2.1];unfold nS;rw [List.filter_append,List.length_append]
  · rw [h4,← h.2.2.2];unfold nQ;rw [List.filter_append,List.length_append]
theorem conns_length:(W n p L).2.2.1.length=n-1+1:=by
  show (cA (p.getD 0 0) :: (List.range (n-1)).map (fun j=>cB j (p.getD (j+1) 0))).length=_
  simp
theorem tmod_nat (c n:Nat):(c:Int).tmod (n:Int)=((c % n:Nat):Int):=by
  rw [Int.tmod_eq_emod_of_nonneg (by omega)]
  omega
theorem fin_loop (S:Sys n st) (a0:D14) (ha:(a0.2.2.1.length:Int)=n):∀ (d c k:Nat) (p:List Nat) (L:List D13),c+d=200→d<k→Good n st p L →
    ∃ L',iter (finB 2097153 a0 200) k (pack (c:Int) (W n p L))=some (W n (run n d c p) L')∧Good n st (run n d c p) L'
  | 0,c,k+1,p,L,hc,hk,h=>by
    refine ⟨L,?_,h⟩
    have hc:c=200:=by omega
    subst hc
    rfl
  | d+1,c,k+1,p,L,hc,hk,h=>by
    obtain ⟨b1,b2⟩:=S.big
    obtain ⟨s1,s2⟩:=S.step h (i:=c % n) (Nat.mod_lt _ (by omega))
    obtain ⟨L',q1,q2⟩:=fin_loop S a0 ha d (c+1) k (nx p (c % n)) (L++ev p (c % n)) (by omega) (by omega) s2
    refine ⟨L',?_,q2⟩
    show finB 2097153 a0 200 (iter (finB 2097153 a0 200) k) (pack (c:Int) (W n p L))=_
    have he:finB 2097153 a0 200 (iter (finB 2097153 a0 200) k) (pack (c:Int) (W n p L))=bif decide ((c:Int)<(if (if (1000:Int)<200 then (1000:Int) else 200)>(0:Int) then (if (1000:Int)<200 then (1000:Int) else 200) else (0:Int))) then (bif decide ((a0.2.2.1.length:Int)=0) then none else ((F21 2097153 (W n p L) ((c:Int).tmod (a0.2.2.1.length:Int))).bind fun r7=>iter (finB 2097153 a0 200) k (pack (wrap64 ((c:Int)+(1:Int))) r7))) else some (W n p L):=rfl
    have e1:decide ((c:Int)<(if (if (1000:Int)<200 then (1000:Int) else 200)>(0:Int) then (if (1000:Int)<200 then (1000:Int) else 200) else (0:Int)))=true:=decide_eq_true (by
      simp only [show ¬ ((1000:Int)<200) from by decide,if_false,show ((200:Int)>0) from by decide,if_true]
      omega)
    have e4:wrap64 ((c:Int)+1)=((c+1:Nat):Int):=by unfold wrap64;omega
    rw [he,e1,cond_true,decide_eq_false (by omega),cond_false,ha,tmod_nat,s1,Option.bind_some,e4]
    exact q1
theorem finished (S:Sys n st) (h:Good n st p L):∃ L',F11 2097153 (W n p L) 200=some (W n (done n) L')∧Good n st (done n) L':=by
  obtain ⟨b1,b2⟩:=S.big
  have hl:((W n p L).2.2.1.length:Int)=n:=by rw [conns_length];omega
  obtain ⟨L',q1,q2⟩:=fin_loop S (W n p L) hl 200 0 2097153 p L (by omega) (by omega) h
  rw [S.fin p h.1] at q1 q2
  refine ⟨L',?_,q2⟩
  rw [finish,S.clone h,Option.bind_some,decide_eq_false (by rw [hl];omega),cond_false]
  exact q1
end
theorem count_loop (K:Nat) (L:List D13) (f:D13→Bool) (hL:L.length<1000) (step:(Int × Int × Unit→Option Int)→Int × Int × Unit→Option Int)
    (hs:∀ rec (a b:Int),0≤b→b<L.length→step rec (a,b,())=rec ((bif f (L.getD b.toNat Z13) then wrap64 (a+1) else a),wrap64 (b+1),())) (he:∀ rec (a b:Int),¬ b<L.length→step rec (a,b,())=some a) :
    ∀ (d i k:Nat),i+d=L.length→d<k→iter step k ((((L.take i).filter f).length:Nat),((i:Nat):Int),())=some ((L.filter f).length:Int)
  | 0,i,k+1,hi,hk=>by
    have:L.take i=L:=List.take_of_length_le (by omega)
    rw [this]
    exact he _ _ _ (by omega)
  | d+1,i,k+1,hi,hk=>by
    have hlt:i<L.length:=by omega
    show step (iter step k) _=_
    rw [hs _ _ _ (by omega) (by omega)]
    have h1:wrap64 ((i:Int)+1)=((i+1:Nat):Int):=by unfold wrap64;omega
    have hle:((L.take i).filter f).length≤i:=Nat.le_trans (List.length_filter_le _ _) (by rw [List.length_take];omega)
    have h2:(bif f (L.getD (i:Int).toNat Z13) then wrap64 ((((L.take i).filter f).length:Nat)+1) else (((L.take i).filter f).length:Nat))=((((L.take (i+1)).filter f).length:Nat):Int):=by
      rw [Int.toNat_natCast,List.getD_eq_getElem?_getD,List.getElem?_eq_getElem hlt,Option.getD_some,List.take_add_one,List.getElem?_eq_getElem hlt,Option.toList_some,List.filter_append,List.length_append]
      cases hf:f L[i] with
      | true=>rw [cond_true,List.filter_cons_of_pos hf,List.filter_nil,List.length_singleton];unfold wrap64;omega
      | false=>rw [cond_false,List.filter_cons_of_neg (by rw [hf];decide),List.filter_nil,List.length_nil,Nat.add_zero]
    rw [h1,h2]
    exact count_loop K L f hL step hs he d (i+1) k (by omega) (by omega)
theorem shares (L:List D13) (hL:L.length<1000):F18 2097153 L 10=some ((nS L:Nat):Int):=by
  unfold F18
  refine count_loop 2097153 L (fun e=>decide (e.1=10)) hL _ (fun rec a b h0 h=>?_) (fun rec a b h=>?_) L.length 0 2097153 (by omega) (by omega)
  · rw [decide_eq_true h,cond_true,decide_eq_true ⟨h0,h⟩,cond_true]
    cases decide ((L.getD b.toNat Z13).1=10) <;> rfl
  · rw [decide_eq_false h,cond_false]
theorem sends (L:List D13) (hL:L.length<1000):F17 2097153 L (ByteArray.mk #[47,97])=some ((nQ L:Nat):Int):=by
  unfold F17
  refine count_loop 2097153 L (fun e=>decide (e.1=6)&&decide (e.2.2.2.1=url)) hL _ (fun rec a b h0 h=>?_) (fun rec a b h=>?_) L.length 0 2097153 (by omega) (by omega)
  · rw [decide_eq_true h,cond_true,decide_eq_true ⟨h0,h⟩,cond_true]
    show (bif decide ((L.getD b.toNat Z13).1=(6:Int)) then (bif decide ((L.getD b.toNat Z13).2.2.2.1=url) then _ else _) else _)=_
    cases decide ((L.getD b.toNat Z13).1=6) <;> cases decide ((L.getD b.toNat Z13).2.2.2.1=url) <;> rfl
  · rw [decide_eq_false h,cond_false]
theorem u2 (L:List D13):tailU 2097153 0 (W 2 (done 2) L) (some 1) (some 1)=some true:=by kernel_rfl
theorem tail2 (L:List D13) (h1:F17 2097153 L (ByteArray.mk #[47,97])=some 1) (h2:F18 2097153 L 10=some 1):tailT 2097153 0 (W 2 (done 2) L)=some true:=by
  have e:tailT 2097153 0 (W 2 (done 2) L)=tailU 2097153 0 (W 2 (done 2) L) (F17 2097153 L (ByteArray.mk #[47,97])) (F18 2097153 L 10):=rfl
  rw [e,h1,h2]
  exact u2 L
theorem u3 (L:List D13):tailU 2097153 1 (W 3 (done 3) L) (some 1) (some 2)=some true:=by kernel_rfl
theorem tail3 (L:List D13) (h1:F17 2097153 L (ByteArray.mk #[47,97])=some 1) (h2:F18 2097153 L 10=some 2):tailT 2097153 1 (W 3 (done 3) L)=some true:=by
  have e:tailT 2097153 1 (W 3 (done 3) L)=tailU 2097153 1 (W 3 (done 3) L) (F17 2097153 L (ByteArray.mk #[47,97])) (F18 2097153 L 10):=rfl
  rw [e,h1,h2]
  exact u3 L
theorem u4 (L:List D13):tailU 2097153 2 (W 4 (done 4) L) (some 1) (some 3)=some true:=by kernel_rfl
theorem tail4 (L:List D13) (h1:F17 2097153 L (ByteArray.mk #[47,97])=some 1) (h2:F18 2097153 L 10=some 3):tailT 2097153 2 (W 4 (done 4) L)=some true:=by
  have e:tailT 2097153 2 (W 4 (done 4) L)=tailU 2097153 2 (W 4 (done 4) L) (F17 2097153 L (ByteArray.mk #[47,97])) (F18 2097153 L 10):=rfl
  rw [e,h1,h2]
  exact u4 L
section
variable {n:Nat} {st:List (List Nat)} {m:Int} {a0:List Int}
theorem long_run (S:Sys n st) (hN:wrap64 ((2:Int)+m)=(n:Int)) (ok:Ty.Ok (.slice (.int .u8)) a0) (hn:a0.length≤1048576) (hT:∀ L,Good n st (done n) L→tailT 2097153 m (W n (done n) L)=some true) :
    ∀ (d c k:Nat) (p:List Nat) (L:List D13),c+d=10*n→d<k→Good n st p L→iter (body3 2097153 a0 m) k (pack (c:Int) (W n p L))=some true
  | 0,c,k+1,p,L,hc,hk,h=>by
    obtain ⟨b1,b2⟩:=S.big
    obtain ⟨L',q1,q2⟩:=finished S h
    have eN:wrap64 ((10:Int)*(n:Int))=10*(n:Int):=by unfold wrap64;omega
    show body3 2097153 a0 m (iter (body3 2097153 a0 m) k) (pack (c:Int) (W n p L))=_
    have e1:decide ((pack (c:Int) (W n p L)).1<10*(n:Int))=false:=decide_eq_false (by
      show ¬ (c:Int)<_
      omega)
    have he:body3 2097153 a0 m (iter (body3 2097153 a0 m) k) (pack (c:Int) (W n p L))=bif decide ((pack (c:Int) (W n p L)).1<(wrap64 ((10:Int)*(wrap64 ((2:Int)+m))))) then ((F8 2097153 a0 (wrap64 ((pack (c:Int) (W n p L)).1+(1:Int)))).bind fun r27=>(bif (decide ((wrap64 ((2:Int)+m))=0)) then none else ((F21 2097153 (W n p L) (r27.tmod (wrap64 ((2:Int)+m)))).bind fun r28=>iter (body3 2097153 a0 m) k (pack (wrap64 ((pack (c:Int) (W n p L)).1+(1:Int))) r28)))) else (F11 2097153 (W n p L) 200).bind (tailT 2097153 m):=rfl
    rw [he,hN,eN,e1,cond_false,q1,Option.bind_some]
    exact hT L' q2
  | d+1,c,k+1,p,L,hc,hk,h=>by
    obtain ⟨b1,b2⟩:=S.big
    have eN:wrap64 ((10:Int)*(n:Int))=10*(n:Int):=by unfold wrap64;omega
    have e4:wrap64 ((c:Int)+1)=((c+1:Nat):Int):=by unfold wrap64;omega
    obtain ⟨v,hv,v0,v1⟩:=Codes.at_some 2097153 a0 ok hn (c+1) (by omega)
    obtain ⟨i,hi⟩:∃ i:Nat,v=(i:Int):=⟨v.toNat,by omega⟩
    subst hi
    obtain ⟨s1,s2⟩:=S.step h (i:=i % n) (Nat.mod_lt _ (by omega))
    have ih:=long_run S hN ok hn hT d (c+1) k (nx p (i % n)) (L++ev p (i % n)) (by omega) (by omega) s2
    show body3 2097153 a0 m (iter (body3 2097153 a0 m) k) (pack (c:Int) (W n p L))=_
    have e1:decide ((pack (c:Int) (W n p L)).1<10*(n:Int))=true:=decide_eq_true (by
      show (c:Int)<_
      omega)
    have he:body3 2097153 a0 m (iter (body3 2097153 a0 m) k) (pack (c:Int) (W n p L))=bif decide ((pack (c:Int) (W n p L)).1<(wrap64 ((10:Int)*(wrap64 ((2:Int)+m))))) then ((F8 2097153 a0 (wrap64 ((c:Int)+(1:Int)))).bind fun r27=>(bif (decide ((wrap64 ((2:Int)+m))=0)) then none else ((F21 2097153 (W n p L) (r27.tmod (wrap64 ((2:Int)+m)))).bind fun r28=>iter (body3 2097153 a0 m) k (pack (wrap64 ((c:Int)+(1:Int))) r28)))) else (F11 2097153 (W n p L) 200).bind (tailT 2097153 m):=rfl
    rw [he,hN,eN,e1,cond_true,e4,hv,Option.bind_some,decide_eq_false (by omega),cond_false,tmod_nat,s1,Option.bind_some]
    exact ih
end
theorem logs_good:Good 2 st2 [0,0] log2∧Good 3 st3 [0,0,0] log3∧Good 4 st4 [0,0,0,0] log4:=by
  refine ⟨⟨?_,?_,?_,?_⟩,⟨?_,?_,?_,?_⟩,⟨?_,?_,?_,?_⟩⟩ <;> decide +kernel
theorem plain (k:Nat) (hk:k=2097153) (a0:List Int) (ok:Ty.Ok (.slice (.int .u8)) a0):F6 k a0=some true:=by
  by_cases hn:a0.length≤1048576
  · subst hk
    obtain ⟨v,h0,v0,v1⟩:=Codes.at_some 2097153 a0 ok hn 0 (by omega)
    have hb:F7 2097153 a0=some false:=by
      unfold F7
      rw [decide_eq_false (by omega)]
    have h0:F8 2097153 a0 0=some v:=h0
    rw [form,hb,Option.bind_some,cond_false,h0,Option.bind_some,rest_eq]
    obtain ⟨g2,g3,g4⟩:=logs_good
    rcases Codes.mod_three v0 with hm | hm | hm <;> rw [hm]
    · rw [pre2]
      refine long_run sys2 (by unfold wrap64;omega) ok hn (fun L h=>tail2 L ?_ ?_) 20 0 2097153 _ _ (by omega) (by omega) g2
      · rw [sends L (by rw [h.2.1];exact sys2.small _ h.1),h.2.2.2];rfl
      · rw [shares L (by rw [h.2.1];exact sys2.small _ h.1),h.2.2.1];rfl
    · rw [pre3]
      refine long_run sys3 (by unfold wrap64;omega) ok hn (fun L h=>tail3 L ?_ ?_) 30 0 2097153 _ _ (by omega) (by omega) g3
      · rw [sends L (by rw [h.2.1];exact sys3.small _ h.1),h.2.2.2];rfl
      · rw [shares L (by rw [h.2.1];exact sys3.small _ h.1),h.2.2.1];rfl
    · rw [pre4]
      refine long_run sys4 (by unfold wrap64;omega) ok hn (fun L h=>tail4 L ?_ ?_) 40 0 2097153 _ _ (by omega) (by omega) g4
      · rw [sends L (by rw [h.2.1];exact sys4.small _ h.1),h.2.2.2];rfl
      · rw [shares L (by rw [h.2.1];exact sys4.small _ h.1),h.2.2.1];rfl
  · have hb:F7 k a0=some true:=by
      unfold F7
      rw [decide_eq_true (by omega)]
    rw [form,hb]
    rfl
end Go.Proofs.YtnohkcklakipoaaGreatDoor.FnTogether
